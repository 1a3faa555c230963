/- Lemmas and walks, several texts in one. No condition. -/
import Derived.Test.YtegmpdmpgmpiaaaGreatDoorP8
import Derived.Test.YtegmpdmpgmpiaaaGreatDoorP3
import Derived.Test.YtegmpdmpgmpiaaaGreatDoorRows
import Derived.WalkKit
open Bool renaming true->a'
open Go.Proofs.Tryz renaming prog->a6
open Go.Proofs.YtegmpdmpgmpiaaaGreatDoor.AV renaming int->b0,str->b1
open Inhabited renaming default->b3
open List renaming map->a7,getD_cons_zero->b4,getD_cons_succ->b5,length_set->b6,map_set->b7
open Option renaming some->b2
set_option linter.defProp false
set_option linter.unusedSimpArgs false
set_option linter.unusedVariables false
set_option maxRecDepth 10000
set_option maxHeartbeats 64000000
open Go.IntKind (i64 u64)
namespace Go.Proofs.YtegmpdmpgmpiaaaGreatDoor
open Go Go.RowKit
set_option maxHeartbeats 64000000
instance i_c_impl_LastOf:Sd a6 106 JU:=⟨cF⟩
@[go_sem]def XY{i:List AA}{g:List UInt8}:=cr (fun y=>@RZ i g y)
noncomputable def ADX:Bl:=Aj a6 Tryz.f174 [0,1,2,3,4,6] [] [] []
noncomputable abbrev AHk:Ar:=Cw [(173,uO)] ADX [.bor,.bor,.bor]
instance:Sd a6 174 AHk:=Aq
attribute [local go_sem] Eg in
@[go_sem]theorem G_36{I:Int}{J i:List UInt8}{R:Int}{o:Bool}{p:Int}{C g:List UInt8}{P:Int}{j:Bool}{T:Int}(h:(Eg (AA.mk I J i R o) (AA.mk p C g P j) T).isSome=a'):AHk.F [.agg ([.int .i64 I,.str J,.str i,.int .i64 R,.bool o]),.agg ([.int .i64 p,.str C,.str g,.int .i64 P,.bool j]),.int .i64 T]=⟨a',.bool (gd (Eg (AA.mk I J i R o) (AA.mk p C g P j) T)),[.any,.any,.any]⟩:=Cj ADX trivial
noncomputable def ADZ:Bl:=Aj a6 Tryz.f172 [0,1,2,3,4,7,8,9] [(100,128),(101,64),(102,128),(103,128),(104,128),(105,64),(106,128),(107,128)] [(1,[8,9],[[0,1,2,3,5,4,6,7,8,9,10,11],[0,1,2,3,5,4,6,7,9,8,10,11],[0,1,2,3,5,4,6,8,9,7,10,11],[0,1,2,3,5,4,6,8,9,10,7,11],[0,1,2,3,5,4,6,9,8,7,10,11],[0,1,2,3,5,4,6,9,8,10,7,11],[0,1,2,3,5,4,8,9,6,7,10,11],[0,1,2,3,5,4,8,9,6,10,7,11],[0,1,2,3,5,4,8,9,10,6,7,11],[0,1,2,3,5,4,9,8,6,7,10,11],[0,1,2,3,5,4,9,8,6,10,7,11],[0,1,2,3,5,4,9,8,10,6,7,11],[0,1,2,3,5,8,9,4,6,7,10,11],[0,1,2,3,5,8,9,4,6,10,7,11],[0,1,2,3,5,8,9,4,10,6,7,11],[0,1,2,3,5,8,9,10,4,6,7,11],[0,1,2,3,5,9,8,4,6,7,10,11],[0,1,2,3,5,9,8,4,6,10,7,11],[0,1,2,3,5,9,8,4,10,6,7,11],[0,1,2,3,5,9,8,10,4,6,7,11]])] []
noncomputable abbrev AHj:Ar:=Cw [(173,uO),(174,AHk)] ADZ [.bor,.bor,.bor,.bor,.bor]
instance:Sd a6 172 AHj:=Aq
attribute [local go_sem] DC in
@[go_sem]theorem G_37{i k:Int}{j:List AA}{t3 g:Int}(h:(DC i k j t3 g).isSome=a'):AHj.F [.int .i64 i,.int .i64 k,.ptr 1 [.sl 5 (a7 AC j)] 0 0,.ptr 1 [.int .i64 t3] 0 0,.ptr 1 [.int .i64 g] 0 0]=⟨a',.bool (gd (DC i k j t3 g)),[.any,.any,.any,.any,.any]⟩:=Cj ADZ trivial
noncomputable def eD:Bl:=Aj a6 Tryz.f171 [0,1,4,5,6,7,9,10,11] [] [] [(203,8,4),(251,203,4)]
noncomputable def jX:List (Nat×Ar):=[(172,AHj)]
instance:SdL a6 jX:=by unfold jX;infer_instance
noncomputable abbrev AHi:Ar:=Xl jX eD [.bor,.bor]
instance:Sd a6 171 AHi:=SN
noncomputable def YF(n:Int)(c:List AA)(c2 c3 i t9 t10:Int):((List (List Int))×Int)->St
 | (out,k)=>⟨[.int .i64 n,.fn (.func 172) [] [.ptr 1 [.sl 5 (a7 AC c)] 0 0,.ptr 1 [.int .i64 c2] 0 0,.ptr 1 [.int .i64 c3] 0 0],.any,.own 3200000,.int .i64 i,.int .i64 k,.int .i64 t9,.int .i64 t10,.any],[],[(3200000,⟨1,a7 (mh 1 (b0 .i64)) out⟩)],a'⟩
noncomputable def YA(n:Int)(c:List AA)(c2 c3 i t9 t10:Int)(y:(List (List Int))):FU:=(.exit 2,⟨[.int .i64 n,.fn (.func 172) [] [.ptr 1 [.sl 5 (a7 AC c)] 0 0,.ptr 1 [.int .i64 c2] 0 0,.ptr 1 [.int .i64 c3] 0 0],.any,.own 3200000,.any,.any,.int .i64 t9,.int .i64 t10,.any],[],[(3200000,⟨1,a7 (mh 1 (b0 .i64)) y⟩)],a'⟩)
attribute [local go_sem] Ad jX YF YA in
theorem EF{n:Int}{c:List AA}{c2 c3 i t9 t10:Int}{g:(List (List Int))×Int}{j:(List (List Int))}(h:AE (Ad n c c2 c3 i t9 t10) g=b2 j):∃ o,∀ L,o<=L->Jj jX L eD 1 (YF n c c2 c3 i t9 t10 g)=YA n c c2 c3 i t9 t10 j:=LF eD trivial
noncomputable def jJ(n:Int)(c:List AA)(c2 c3 t9:Int):((List (List Int))×Int)->St
 | (out,t10)=>⟨[.int .i64 n,.fn (.func 172) [] [.ptr 1 [.sl 5 (a7 AC c)] 0 0,.ptr 1 [.int .i64 c2] 0 0,.ptr 1 [.int .i64 c3] 0 0],.any,.own 3200000,.any,.any,.int .i64 t9,.int .i64 t10,.any],[],[(3200000,⟨1,a7 (mh 1 (b0 .i64)) out⟩)],a'⟩
noncomputable def iU(n:Int)(c:List AA)(c2 c3 t9:Int)(y:(List (List Int))):FU:=(.exit 0,⟨[.any,.any,.any,.own 3200000,.any,.any,.any,.any,.any],[],[(3200000,⟨1,a7 (mh 1 (b0 .i64)) y⟩)],a'⟩)
attribute [local go_sem] AZ jX jJ iU YF YA in
theorem IJ{n:Int}{c:List AA}{c2 c3 t9:Int}{g:(List (List Int))×Int}{i:(List (List Int))}(h:AE (AZ n c c2 c3 t9) g=b2 i):∃ j,∀ L,j<=L->Jj jX L eD 0 (jJ n c c2 c3 t9 g)=iU n c c2 c3 t9 i:=LF eD @EF
attribute [local go_sem] BS jX YF YA jJ iU in
@[go_sem]theorem G_38{n:Int}{j:List AA}{i g:Int}(h:(BS n j i g).isSome=a'):AHi.F [.int .i64 n,.fn (.func 172) [] [.ptr 1 [.sl 5 (a7 AC j)] 0 0,.ptr 1 [.int .i64 i] 0 0,.ptr 1 [.int .i64 g] 0 0]]=⟨a',.fresh 1 (a7 (mh 1 (b0 .i64)) (gd (BS n j i g))),[.any,.any]⟩:=Cj eD (an @EF @IJ)
noncomputable def AEL:Bl:=Aj a6 Tryz.f109 [0,1,2,3,4,5,6,7] [] [] []
noncomputable abbrev AHh:Ar:=Xl [(70,oO),(154,cU),(171,AHi)] AEL [.bor,.bor,.bor]
instance:Sd a6 109 AHh:=SN
attribute [local go_sem] Cl in
@[go_sem]theorem G_39{i:List AA}{g j:Int}(h:(Cl i g j).isSome=a'):AHh.F [.sl 5 (a7 AC i),.int .i64 g,.int .i64 j]=⟨a',.tup [.fresh 1 (a7 (mh 1 (b0 .i64)) ((gd (Cl i g j)).1)),.int .i64 ((gd (Cl i g j)).2)],[.any,.any,.any]⟩:=Cj AEL trivial
noncomputable def AED:Bl:=Aj a6 Tryz.f119 [0,1,2,3] [] [] []
noncomputable abbrev ABb:Ar:=Cw [(154,cU),(168,gX),(181,oP)] AED [.bor]
instance:Sd a6 119 ABb:=Aq
attribute [local go_sem] Jt in
@[go_sem]theorem G_40{o:List UInt8}{i p g j:Int}(h:(Jt (Star.mk o i p g j)).isSome=a'):ABb.F [.agg ([.str o,.int .i64 i,.int .i64 p,.int .i64 g,.int .i64 j])]=⟨a',.bool (gd (Jt (Star.mk o i p g j))),[.any]⟩:=Cj AED trivial
noncomputable def AEC:Bl:=Aj a6 Tryz.f120 [0,1,2] [] [] []
noncomputable abbrev ABa:Ar:=Cw [] AEC [.bor]
instance:Sd a6 120 ABa:=Aq
attribute [local go_sem] Cx in
@[go_sem]theorem G_41{o:List UInt8}{i p g j:Int}(h:(Cx (Star.mk o i p g j)).isSome=a'):ABa.F [.agg ([.str o,.int .i64 i,.int .i64 p,.int .i64 g,.int .i64 j])]=⟨a',.str (gd (Cx (Star.mk o i p g j))),[.any]⟩:=Cj AEC trivial
noncomputable def qU:Bl:=Aj a6 Tryz.f118 [0,1,2,3,8,9,10,15,16,17,18] [(602,32)] [] [(909,0,16)]
noncomputable def sA:List (Nat×Ar):=[(119,ABb),(120,ABa)]
instance:SdL a6 sA:=by unfold sA;infer_instance
noncomputable abbrev AHg:Ar:=Cw sA qU [.bor,.bor,.bor,.bor]
instance:Sd a6 118 AHg:=Aq
noncomputable def jI(g o:List Star)(j:Int):Int->St
 | i=>⟨[.sl 5 (a7 Ao g),.any,.fn (.func 119) [] [],.fn (.func 120) [] [],.any,.any,.any,.sl 5 (a7 Ao o),.int .i64 j,.int .i64 i,.any],[],[],a'⟩
noncomputable def iT(g j:List Star)(i:Int):(Unit⊕Bool)->FU
 | .inl y=>(.exit 0,⟨[.any,.any,.any,.any,.any,.any,.any,.any,.any,.any,.any],[],[],a'⟩)
 | .inr y=>(.ret,⟨[.any,.any,.any,.any,.bool y,.any,.any,.any,.any,.any,.any],[],[],a'⟩)
attribute [local go_sem] Ac sA jI iT in
theorem FV{g p:List Star}{o i:Int}{j:Unit⊕Bool}(h:AE (Ac g p o) i=b2 j):∃ C,∀ L,C<=L->Jj sA L qU 0 (jI g p o i)=iT g p o j:=LF qU trivial
attribute [local go_sem] BH sA jI iT in
@[go_sem]theorem G_42{i:List Star}{g:Int}(h:(BH i g).isSome=a'):AHg.F [.sl 5 (a7 Ao i),.int .i64 g,.fn (.func 119) [] [],.fn (.func 120) [] []]=⟨a',.bool (gd (BH i g)),[.any,.any,.any,.any]⟩:=Cj qU @FV
noncomputable def AJx:Bl:=Aj a6 Tryz.f69 [0,2] [] [] []
noncomputable abbrev AHf:Ar:=Cw [(118,AHg)] AJx [.bor]
instance:Sd a6 69 AHf:=Aq
attribute [local go_sem] Gx in
@[go_sem]theorem G_43{g:List Star}(h:(Gx g).isSome=a'):AHf.F [.sl 5 (a7 Ao g)]=⟨a',.bool (gd (Gx g)),[.any]⟩:=Cj AJx trivial
noncomputable def ADy:Bl:=Aj a6 Tryz.f124 [0,1,2,3] [] [] []
noncomputable abbrev AHe:Ar:=Cw [] ADy [.bor,.bor]
instance:Sd a6 124 AHe:=Aq
attribute [local go_sem] JL in
@[go_sem]theorem G_44{o:List UInt8}{i p g j:Int}{C:List UInt8}(h:(JL (Star.mk o i p g j) C).isSome=a'):AHe.F [.agg ([.str o,.int .i64 i,.int .i64 p,.int .i64 g,.int .i64 j]),.ptr 1 [.str C] 0 0]=⟨a',.bool (gd (JL (Star.mk o i p g j) C)),[.any,.any]⟩:=Cj ADy trivial
noncomputable def qI:Bl:=Aj a6 Tryz.f186 [0,1,4,5,7,8,9] [] [] [(51,0,4)]
noncomputable def rz:List (Nat×Ar):=[(124,AHe)]
instance:SdL a6 rz:=by unfold rz;infer_instance
noncomputable abbrev AHd:Ar:=Cw rz qI [.bor,.bor]
instance:Sd a6 186 AHd:=Aq
noncomputable def jH(s_:List Star)(c:List UInt8)(i:Int):Int->St
 | g=>⟨[.sl 5 (a7 Ao s_),.fn (.func 124) [] [.ptr 1 [.str c] 0 0],.any,.any,.int .i64 i,.int .i64 g,.any],[],[],a'⟩
noncomputable def iQ(s_:List Star)(c:List UInt8)(g:Int):(Unit⊕Int)->FU
 | .inl y=>(.exit 0,⟨[.any,.any,.any,.any,.any,.any,.any],[],[],a'⟩)
 | .inr y=>(.ret,⟨[.any,.any,.int .i64 y,.any,.any,.any,.any],[],[],a'⟩)
attribute [local go_sem] Ah rz jH iQ in
theorem Ek{s_:List Star}{c:List UInt8}{j g:Int}{i:Unit⊕Int}(h:AE (Ah s_ c j) g=b2 i):∃ o,∀ L,o<=L->Jj rz L qI 0 (jH s_ c j g)=iQ s_ c j i:=LF qI trivial
attribute [local go_sem] Aw rz jH iQ in
@[go_sem]theorem G_45{s_:List Star}{g:List UInt8}(h:(Aw s_ g).isSome=a'):AHd.F [.sl 5 (a7 Ao s_),.fn (.func 124) [] [.ptr 1 [.str g] 0 0]]=⟨a',.int .i64 (gd (Aw s_ g)),[.any,.any]⟩:=Cj qI @Ek
noncomputable def ADz:Bl:=Aj a6 Tryz.f123 [0,1,4] [] [] []
noncomputable abbrev AHc:Ar:=Cw [(186,AHd)] ADz [.bor,.bor]
instance:Sd a6 123 AHc:=Aq
attribute [local go_sem] Al in
@[go_sem]theorem G_46{s_:List Star}{g:List UInt8}(h:(Al s_ g).isSome=a'):AHc.F [.sl 5 (a7 Ao s_),.fn (.func 124) [] [.ptr 1 [.str g] 0 0]]=⟨a',.bool (gd (Al s_ g)),[.any,.any]⟩:=Cj ADz trivial
noncomputable def AJw:Bl:=Aj a6 Tryz.f71 [0,1,3,4] [] [] []
noncomputable abbrev ABZ:Ar:=Cw [(123,AHc)] AJw [.bor,.bor]
instance:Sd a6 71 ABZ:=Aq
attribute [local go_sem] Fz in
@[go_sem]theorem G_47{i:List Star}{g:List UInt8}(h:(Fz i g).isSome=a'):ABZ.F [.sl 5 (a7 Ao i),.str g]=⟨a',.bool (gd (Fz i g)),[.any,.any]⟩:=Cj AJw trivial
theorem mj:CF a6 247 Ko:=ko
instance i_c_hInsStar:Sd a6 247 Ko:=⟨mj⟩
noncomputable def qE:Bl:=Aj a6 Tryz.f206 [0,1,2,4,6,7] [(402,64)] [(4,[],[[2,0,1,3,4,5,6],[2,0,3,1,4,5,6],[2,0,3,4,1,5,6],[2,3,0,1,4,5,6],[2,3,0,4,1,5,6],[2,3,4,0,1,5,6]])] [(45,41,16)]
noncomputable def ry:List (Nat×Ar):=[(120,ABa),(56,c_1),(247,Ko)]
instance:SdL a6 ry:=by unfold ry;infer_instance
noncomputable abbrev AHb:Ar:=Cw ry qE [.bor,.bor,.bor]
instance:Sd a6 206 AHb:=Aq
noncomputable def jG(g:List Star)(x:Star):Int->St
 | k=>⟨[.sl 5 (a7 Ao g),.any,.fn (.func 120) [] [],.ref 3200000 0 0,.any,.int .i64 k],[],[(3200000,⟨5,[Ao x]⟩)],a'⟩
noncomputable def iP(g:List Star)(x:Star)(y:Int):FU:=(.exit 0,⟨[.sl 5 (a7 Ao g),.any,.any,.ref 3200000 0 0,.any,.int .i64 y],[],[(3200000,⟨5,[Ao x]⟩)],a'⟩)
attribute [local go_sem] As ry jG iP in
theorem IX{g:List Star}{x:Star}{i j:Int}(h:AE (As g x) i=b2 j):∃ o,∀ L,o<=L->Jj ry L qE 0 (jG g x i)=iP g x j:=LF qE trivial
attribute [local go_sem] Bk ry jG iP in
@[go_sem]theorem G_49{C:List Star}{o:List UInt8}{i p g j:Int}(h:(Bk C (Star.mk o i p g j)).isSome=a'):AHb.F [.sl 5 (a7 Ao C),.agg ([.str o,.int .i64 i,.int .i64 p,.int .i64 g,.int .i64 j]),.fn (.func 120) [] []]=⟨a',.fresh 5 (a7 Ao (gd (Bk C (Star.mk o i p g j)))),[.any,.any,.any]⟩:=Cj qE (an @IX (@XK _ Ao))
noncomputable def ADh:Bl:=Aj a6 Tryz.f157 [0,1,3,4,5] [] [] []
noncomputable abbrev AHa:Ar:=Cw [(69,AHf),(119,ABb),(71,ABZ),(206,AHb)] ADh [.bor,.bor]
instance:Sd a6 157 AHa:=Aq
attribute [local go_sem] Iz in
@[go_sem]theorem G_50{C:List Star}{o:List UInt8}{i p g j:Int}(h:(Iz C (Star.mk o i p g j)).isSome=a'):AHa.F [.sl 5 (a7 Ao C),.agg ([.str o,.int .i64 i,.int .i64 p,.int .i64 g,.int .i64 j])]=⟨a',.tup [.fresh 5 (a7 Ao ((gd (Iz C (Star.mk o i p g j))).1)),.int .i64 ((gd (Iz C (Star.mk o i p g j))).2)],[.any,.any]⟩:=Cj ADh trivial
theorem YW:CF a6 208 Ge:=XQ
instance i_c_hInsEstimate:Sd a6 208 Ge:=⟨YW⟩
noncomputable def qD:Bl:=Aj a6 Tryz.f207 [0,1,2,4,6,7,8,9,10,11] [(506,32)] [] [(461,205,48)]
noncomputable def rx:List (Nat×Ar):=[(122,ABc)]
instance:SdL a6 rx:=by unfold rx;infer_instance
noncomputable abbrev AHZ:Ar:=Cw rx qD [.bor,.bor,.bor]
instance:Sd a6 207 AHZ:=Aq
noncomputable def jF(x:List AA)(g:AA)(n:Int):(Int×Int)->St
 | (i,j)=>⟨[.sl 5 (a7 AC x),.any,.fn (.func 122) [] [],.ref 3200000 0 0,.any,.any,.int .i64 n,.int .i64 i,.int .i64 j,.any],[],[(3200000,⟨5,[AC g]⟩)],a'⟩
noncomputable def iO(x:List AA)(g:AA)(n y:Int):FU:=(.exit 0,⟨[.sl 5 (a7 AC x),.any,.fn (.func 122) [] [],.ref 3200000 0 0,.any,.any,.int .i64 n,.int .i64 y,.any,.any],[],[(3200000,⟨5,[AC g]⟩)],a'⟩)
attribute [local go_sem] AI rx jF iO in
theorem CU{x:List AA}{g:AA}{n:Int}{i:Int×Int}{j:Int}(h:AE (AI x g n) i=b2 j):∃ o,∀ L,o<=L->Jj rx L qD 0 (jF x g n i)=iO x g n j:=LF qD trivial
attribute [local go_sem] AL rx jF iO in
@[go_sem]theorem G_52{x:List AA}{j:Int}{o g:List UInt8}{p:Int}{i:Bool}(h:(AL x (AA.mk j o g p i)).isSome=a'):AHZ.F [.sl 5 (a7 AC x),.agg ([.int .i64 j,.str o,.str g,.int .i64 p,.bool i]),.fn (.func 122) [] []]=⟨a',.tup [.int .i64 ((gd (AL x (AA.mk j o g p i))).1),.bool ((gd (AL x (AA.mk j o g p i))).2)],[.any,.any,.any]⟩:=Cj qD @CU
noncomputable def ADg:Bl:=Aj a6 Tryz.f158 [0,1,3,4,5,6,7] [(1002,64),(1007,64)] [(10,[],[[2,0,1,3,4,5,6,7],[2,0,3,1,4,5,6,7],[2,0,3,4,1,5,6,7],[2,3,0,1,4,5,6,7],[2,3,0,4,1,5,6,7],[2,3,4,0,1,5,6,7]])] []
noncomputable abbrev AHY:Ar:=Cw [(70,oO),(121,ABe),(207,AHZ),(57,c_2),(208,Ge)] ADg [.bor,.bor]
instance:Sd a6 158 AHY:=Aq
attribute [local go_sem] Dm in
@[go_sem]theorem G_53{C:List AA}{j:Int}{o g:List UInt8}{p:Int}{i:Bool}(h:(Dm C (AA.mk j o g p i)).isSome=a'):AHY.F [.sl 5 (a7 AC C),.agg ([.int .i64 j,.str o,.str g,.int .i64 p,.bool i])]=⟨a',.tup [.fresh 5 (a7 AC ((gd (Dm C (AA.mk j o g p i))).1)),.int .i64 ((gd (Dm C (AA.mk j o g p i))).2)],[.any,.any]⟩:=Cj ADg (@QX _ AC)
noncomputable def AEI:Bl:=Aj a6 Tryz.f112 [0,1,2] [(102,16),(110,16)] [] []
noncomputable abbrev xv:Ar:=Cw [(110,WU)] AEI [.bor]
instance:Sd a6 112 xv:=Aq
attribute [local go_sem] EI in
@[go_sem]theorem G_54{j:Int}{i:List UInt8}{g:Int}(h:(EI (AW.mk j i g)).isSome=a'):xv.F [.agg ([.int .i64 j,.str i,.int .i64 g])]=⟨a',.str (gd (EI (AW.mk j i g))),[.any]⟩:=Cj AEI trivial
noncomputable def qC:Bl:=Aj a6 Tryz.f211 [0,1,3,4,5,6,7,14,15,16] [] [] [(432,16,8)]
noncomputable def ru:List (Nat×Ar):=[(112,xv)]
instance:SdL a6 ru:=by unfold ru;infer_instance
noncomputable abbrev ABY:Ar:=Cw ru qC [.bor,.bor]
instance:Sd a6 211 ABY:=Aq
noncomputable def jE(g:List UInt8)(j:Int):(Int×Int)->St
 | (o,i)=>⟨[.any,.any,.any,.any,.int .i64 o,.str g,.any,.int .i64 j,.int .i64 i,.any],[],[],a'⟩
noncomputable def iM(g:List UInt8)(i y:Int):FU:=(.exit 0,⟨[.any,.any,.any,.any,.int .i64 y,.any,.any,.any,.any,.any],[],[],a'⟩)
attribute [local go_sem] MF ru jE iM in
theorem WG{g:List UInt8}{o:Int}{i:Int×Int}{j:Int}(h:AE (MF g o) i=b2 j):∃ p,∀ L,p<=L->Jj ru L qC 0 (jE g o i)=iM g o j:=LF qC trivial
attribute [local go_sem] IH ru jE iM in
@[go_sem]theorem G_55{j o:Int}{i:List UInt8}{g:Int}(h:(IH j (AW.mk o i g)).isSome=a'):ABY.F [.int .i64 j,.agg ([.int .i64 o,.str i,.int .i64 g])]=⟨a',.int .i64 (gd (IH j (AW.mk o i g))),[.any,.any]⟩:=Cj qC @WG
noncomputable def ADF:Bl:=Aj a6 Tryz.f210 [0,1,2,4] [] [] []
noncomputable abbrev AHX:Ar:=Cw [(112,xv),(110,WU)] ADF [.bor,.bor]
instance:Sd a6 210 AHX:=Aq
attribute [local go_sem] LC in
@[go_sem]theorem G_56{o:Int}{i:List UInt8}{g j:Int}(h:(LC (AW.mk o i g) j).isSome=a'):AHX.F [.agg ([.int .i64 o,.str i,.int .i64 g]),.int .i64 j]=⟨a',.str (gd (LC (AW.mk o i g) j)),[.any,.any]⟩:=Cj ADF trivial
noncomputable def ADG:Bl:=Aj a6 Tryz.f209 [0,1,2] [] [] []
noncomputable abbrev ABX:Ar:=Cw [(154,cU),(168,gX)] ADG [.bor]
instance:Sd a6 209 ABX:=Aq
attribute [local go_sem] Eh in
@[go_sem]theorem G_57{j:Int}{i:List UInt8}{g:Int}(h:(Eh (AW.mk j i g)).isSome=a'):ABX.F [.agg ([.int .i64 j,.str i,.int .i64 g])]=⟨a',.bool (gd (Eh (AW.mk j i g))),[.any]⟩:=Cj ADG trivial
noncomputable def ACt:Bl:=Aj a6 Tryz.f233 [0,2,3,4,5,6,7,8,9,10,11,12] [(801,64),(802,64),(803,64),(806,64),(809,64),(814,64),(815,64)] [(8,[],[[0,1,2,3,4,5,6,7,8,9,10,11,13,12,14,15]])] []
noncomputable abbrev AHW:Ar:=Xl [(97,MX),(101,Lg),(209,ABX)] ACt [.bor]
instance:Sd a6 233 AHW:=SN
attribute [local go_sem] FP in
@[go_sem]theorem G_58{line:List UInt8}(h:(FP line).isSome=a'):AHW.F [.str line]=⟨a',.tup [Bz ((gd (FP line)).1),.int .i64 ((gd (FP line)).2.1),.bool ((gd (FP line)).2.2)],[.any]⟩:=Cj ACt @We
noncomputable def qH:Bl:=Aj a6 Tryz.f187 [0,2,3,4,5,6,7,8,9,11,12,13,14] [] [] [(241,0,14)]
noncomputable def rq:List (Nat×Ar):=[(25,QG),(233,AHW),(211,ABY)]
instance:SdL a6 rq:=by unfold rq;infer_instance
noncomputable abbrev AHV:Ar:=Cw rq qH [.bor]
instance:Sd a6 187 AHV:=Aq
noncomputable def jD(log:List UInt8):((List AW)×Int×Int×Int)->St
 | (entries,g,last,i)=>⟨[.str log,.any,.any,.any,.own 3200000,.int .i64 g,.int .i64 last,.int .i64 i,.any,.any,.any,.any,.any],[],[(3200000,⟨3,a7 Bz entries⟩)],a'⟩
noncomputable def iL(log:List UInt8)(y:(List AW)×Int×Int):FU:=(.ret,⟨[.any,.own 3200000,.int .i64 y.2.1,.int .i64 y.2.2,.any,.any,.any,.any,.any,.any,.any,.any,.any],[],[(3200000,⟨3,a7 Bz y.1⟩)],a'⟩)
attribute [local go_sem] Fi rq jD iL in
theorem TL{log:List UInt8}{g:(List AW)×Int×Int×Int}{i:(List AW)×Int×Int}(h:AE (Fi log) g=b2 i):∃ j,∀ L,j<=L->Jj rq L qH 0 (jD log g)=iL log i:=LF qH @VG
attribute [local go_sem] Hn rq jD iL in
@[go_sem]theorem G_59{log:List UInt8}(h:(Hn log).isSome=a'):AHV.F [.str log]=⟨a',.tup [.fresh 3 (a7 Bz ((gd (Hn log)).1)),.int .i64 ((gd (Hn log)).2.1),.int .i64 ((gd (Hn log)).2.2)],[.any]⟩:=Cj qH (an @TL @VG)
noncomputable def ADx:Bl:=Aj a6 Tryz.f125 [0,2,3,4,5,6,7] [] [] []
noncomputable abbrev ABW:Ar:=Cw [(187,AHV)] ADx [.bor]
instance:Sd a6 125 ABW:=Aq
attribute [local go_sem] FG in
@[go_sem]theorem G_60{log:List UInt8}(h:(FG log).isSome=a'):ABW.F [.str log]=⟨a',.tup [.fresh 3 (a7 Bz ((gd (FG log)).1)),.int .i64 ((gd (FG log)).2.1),.int .i64 ((gd (FG log)).2.2)],[.any]⟩:=Cj ADx trivial
noncomputable def ADf:Bl:=Aj a6 Tryz.f159 [0,1,3,4,5,6,7,8] [(804,16),(805,16)] [] []
noncomputable abbrev AHU:Ar:=Cw [(125,ABW),(209,ABX),(211,ABY),(210,AHX)] ADf [.bor,.bor]
instance:Sd a6 159 AHU:=Aq
attribute [local go_sem] FI in
@[go_sem]theorem G_61{log:List UInt8}{j:Int}{i:List UInt8}{g:Int}(h:(FI log (AW.mk j i g)).isSome=a'):AHU.F [.str log,.agg ([.int .i64 j,.str i,.int .i64 g])]=⟨a',.tup [.str ((gd (FI log (AW.mk j i g))).1),.int .i64 ((gd (FI log (AW.mk j i g))).2)],[.any,.any]⟩:=Cj ADf trivial
noncomputable def AJv:Bl:=Aj a6 Tryz.f72 [0,2,3,4,6] [] [] []
noncomputable abbrev ABV:Ar:=Cw [(125,ABW)] AJv [.bor]
instance:Sd a6 72 ABV:=Aq
attribute [local go_sem] FT in
@[go_sem]theorem G_62{log:List UInt8}(h:(FT log).isSome=a'):ABV.F [.str log]=⟨a',.tup [.fresh 3 (a7 Bz ((gd (FT log)).1)),.int .i64 ((gd (FT log)).2)],[.any]⟩:=Cj AJv trivial
noncomputable def ADE:Bl:=Aj a6 Tryz.f213 [0,1,2,3] [] [] []
noncomputable abbrev AHT:Ar:=Cw [] ADE [.bor,.bor]
instance:Sd a6 213 AHT:=Aq
attribute [local go_sem] IZ in
@[go_sem]theorem G_63{j:Int}{i:List UInt8}{g:Int}{o:List UInt8}(h:(IZ (AW.mk j i g) o).isSome=a'):AHT.F [.agg ([.int .i64 j,.str i,.int .i64 g]),.ptr 1 [.str o] 0 0]=⟨a',.bool (gd (IZ (AW.mk j i g) o)),[.any,.any]⟩:=Cj ADE trivial
noncomputable def qB:Bl:=Aj a6 Tryz.f212 [0,1,4,5,7,9,10,11,12] [] [] [(234,8,4)]
noncomputable def rp:List (Nat×Ar):=[(213,AHT)]
instance:SdL a6 rp:=by unfold rp;infer_instance
noncomputable abbrev AHS:Ar:=Cw rp qB [.bor,.bor]
instance:Sd a6 212 AHS:=Aq
noncomputable def jC(c:List UInt8)(t9:List AW)(t10:Int):((List Int)×Int)->St
 | (out,g)=>⟨[.any,.fn (.func 213) [] [.ptr 1 [.str c] 0 0],.any,.own 3200000,.any,.sl 3 (a7 Bz t9),.int .i64 t10,.int .i64 g,.any],[],[(3200000,⟨1,a7 (b0 .i64) out⟩)],a'⟩
noncomputable def iK(c:List UInt8)(t9:List AW)(t10:Int)(y:(List Int)):FU:=(.exit 0,⟨[.any,.any,.any,.own 3200000,.any,.any,.any,.any,.any],[],[(3200000,⟨1,a7 (b0 .i64) y⟩)],a'⟩)
attribute [local go_sem] Be rp jC iK in
theorem KI{c:List UInt8}{t9:List AW}{t10:Int}{g:(List Int)×Int}{i:(List Int)}(h:AE (Be c t9 t10) g=b2 i):∃ j,∀ L,j<=L->Jj rp L qB 0 (jC c t9 t10 g)=iK c t9 t10 i:=LF qB trivial
attribute [local go_sem] Cg rp jC iK in
@[go_sem]theorem G_64{i:List AW}{g:List UInt8}(h:(Cg i g).isSome=a'):AHS.F [.sl 3 (a7 Bz i),.fn (.func 213) [] [.ptr 1 [.str g] 0 0]]=⟨a',.fresh 1 (a7 (b0 .i64) (gd (Cg i g))),[.any,.any]⟩:=Cj qB @KI
noncomputable def ADe:Bl:=Aj a6 Tryz.f160 [0,1,3,4,5,6,7] [] [] []
noncomputable abbrev AHR:Ar:=Cw [(72,ABV),(168,gX),(212,AHS)] ADe [.bor,.bor]
instance:Sd a6 160 AHR:=Aq
attribute [local go_sem] FH in
@[go_sem]theorem G_65{log what:List UInt8}(h:(FH log what).isSome=a'):AHR.F [.str log,.str what]=⟨a',.tup [.fresh 1 (a7 (b0 .i64) ((gd (FH log what)).1)),.int .i64 ((gd (FH log what)).2)],[.any,.any]⟩:=Cj ADe trivial
noncomputable def ADD:Bl:=Aj a6 Tryz.f214 [0,2] [] [] []
noncomputable abbrev AHQ:Ar:=Cw [] ADD [.bor]
instance:Sd a6 214 AHQ:=Aq
attribute [local go_sem] FQ in
@[go_sem]theorem G_66{g:List Star}(h:(FQ g).isSome=a'):AHQ.F [.sl 5 (a7 Ao g)]=⟨a',.int .i64 (gd (FQ g)),[.any]⟩:=Cj ADD trivial
noncomputable def ADC:Bl:=Aj a6 Tryz.f215 [0,2] [] [] []
noncomputable abbrev AHP:Ar:=Cw [] ADC [.bor]
instance:Sd a6 215 AHP:=Aq
attribute [local go_sem] EB in
@[go_sem]theorem G_67{g:List AA}(h:(EB g).isSome=a'):AHP.F [.sl 5 (a7 AC g)]=⟨a',.int .i64 (gd (EB g)),[.any]⟩:=Cj ADC trivial
noncomputable def ADd:Bl:=Aj a6 Tryz.f162 [0,1,2] [(102,16),(103,16),(107,16),(108,16)] [] []
noncomputable abbrev AHO:Ar:=Cw [(214,AHQ),(110,WU),(215,AHP)] ADd [.bor]
instance:Sd a6 162 AHO:=Aq
attribute [local go_sem] EY in
@[go_sem]theorem G_68{i:List Star}{g:List AA}{j:List UInt8}(h:(EY (Bp.mk i g j)).isSome=a'):AHO.F [.agg ([.sl 5 (a7 Ao i),.sl 5 (a7 AC g),.str j])]=⟨a',.str (gd (EY (Bp.mk i g j))),[.any]⟩:=Cj ADd trivial
noncomputable def AEN:Bl:=Aj a6 Tryz.f107 [0,1,4,5] [] [] []
noncomputable abbrev uM:Ar:=Cw [] AEN [.bor,.bor]
instance:Sd a6 107 uM:=Aq
attribute [local go_sem] Ep in
@[go_sem]theorem ALI{line:List UInt8}{g:Int}(h:(Ep line g).isSome=a'):uM.F [.str line,.int .i64 g]=⟨a',.tup [.fresh 1 (a7 b1 ((gd (Ep line g)).1)),.int .i64 ((gd (Ep line g)).2)],[.any,.any]⟩:=Cj AEN trivial
theorem AMN{line:List UInt8}{g:Int}{i:(List (List UInt8))×Int}(h:Ep line g=b2 i):uM.F [.str line,.int .i64 g]=⟨a',.tup [.fresh 1 (a7 b1 i.1),.int .i64 i.2],[.any,.any]⟩:=by
 have q:=ALI (MZ h);simp only[h,BA] at q;exact q
noncomputable def qM:Bl:=Aj a6 Tryz.f161 [0,2,3,5,6,7,8,9] [] [] [(116,4,2)]
noncomputable def zh:List (Nat×Ar):=[]
instance:SdL a6 zh:=SdL0
noncomputable abbrev ABU:Ar:=Cw zh qM [.bor]
instance:Sd a6 161 ABU:=Aq
noncomputable def jB(j:List Int)(i:Int):(Int×Int)->St
 | (n,g)=>⟨[.any,.any,.int .i64 n,.any,.sl 1 (a7 (b0 .i64) j),.int .i64 i,.int .i64 g,.any],[],[],a'⟩
noncomputable def iJ(i:List Int)(g y:Int):FU:=(.exit 0,⟨[.any,.any,.int .i64 y,.any,.any,.any,.any,.any],[],[],a'⟩)
attribute [local go_sem] Hl jB iJ in
theorem ZO{o:List Int}{j:Int}{g:Int×Int}{i:Int}(h:AE (Hl o j) g=b2 i):∃ p,∀ L,p<=L->Jj zh L qM 0 (jB o j g)=iJ o j i:=LF qM trivial
attribute [local go_sem] JI zh jB iJ in
@[go_sem]theorem G_70{g:List Int}(h:(JI g).isSome=a'):ABU.F [.sl 1 (a7 (b0 .i64) g)]=⟨a',.int .i64 (gd (JI g)),[.any]⟩:=Cj qM @ZO
noncomputable def AEO:Bl:=Aj a6 Tryz.f104 [0,1,3,4,5,6,7,8,9,15] [(1021,32),(1208,16),(1421,32),(415,32)] [(10,[],[[1,2,3,4,5,6,7,8,9,10,11,12,13,14,15,16,17,18,19,20,21,0,22,23,24,26,27,25,28,29],[1,2,3,4,5,6,7,8,9,10,11,12,13,14,15,16,17,18,19,20,21,0,22,23,24,26,27,28,25,29],[1,2,3,4,5,6,7,8,9,10,11,12,13,14,15,16,17,18,19,20,21,22,0,23,24,26,27,25,28,29],[1,2,3,4,5,6,7,8,9,10,11,12,13,14,15,16,17,18,19,20,21,22,0,23,24,26,27,28,25,29]]),(14,[],[[1,2,3,4,5,6,7,8,9,10,11,12,13,14,15,16,17,18,19,20,21,0,22,23,24,26,27,25,28,29],[1,2,3,4,5,6,7,8,9,10,11,12,13,14,15,16,17,18,19,20,21,0,22,23,24,26,27,28,25,29],[1,2,3,4,5,6,7,8,9,10,11,12,13,14,15,16,17,18,19,20,21,22,0,23,24,26,27,25,28,29],[1,2,3,4,5,6,7,8,9,10,11,12,13,14,15,16,17,18,19,20,21,22,0,23,24,26,27,28,25,29]]),(4,[],[[1,2,3,4,5,6,7,8,9,10,11,12,13,14,15,0,16,17,18,20,21,19,22,23],[1,2,3,4,5,6,7,8,9,10,11,12,13,14,15,0,16,17,18,20,21,22,19,23],[1,2,3,4,5,6,7,8,9,10,11,12,13,14,15,16,0,17,18,20,21,19,22,23],[1,2,3,4,5,6,7,8,9,10,11,12,13,14,15,16,0,17,18,20,21,22,19,23]])] []
noncomputable abbrev AHN:Ar:=Xl [(157,AHa),(162,AHO),(107,uM),(71,ABZ),(158,AHY),(159,AHU),(160,AHR),(161,ABU),(110,WU)] AEO [.io,.bor]
instance:Sd a6 104 AHN:=SN
attribute [local go_sem] Ct in
@[go_sem]theorem G_71{o:List Star}{g:List AA}{I:List UInt8}{C:List (List UInt8)}{i:List Int}{j p:Bool}(h:(Ct (Bp.mk o g I) (EM.mk C i j p)).isSome=a'):AHN.F [.mem 3 [(.agg ([.sl 5 (a7 Ao o),.sl 5 (a7 AC g),.str I]))] 0,.agg ([.sl 1 (a7 b1 C),.sl 1 (a7 (b0 .i64) i),.bool j,.bool p])]=⟨a',.tup [.fresh 1 (a7 b1 ((gd (Ct (Bp.mk o g I) (EM.mk C i j p))).1)),.int .i64 ((gd (Ct (Bp.mk o g I) (EM.mk C i j p))).2.1)],[.mem 3 [EL ((gd (Ct (Bp.mk o g I) (EM.mk C i j p))).2.2)] 0,.any]⟩:=Cj AEO trivial
noncomputable def ADB:Bl:=Aj a6 Tryz.f217 [0,1,2,3] [] [] []
noncomputable abbrev AHM:Ar:=Cw [] ADB [.bor,.bor]
instance:Sd a6 217 AHM:=Aq
attribute [local go_sem] JM in
@[go_sem]theorem G_72{j:Int}{o g:List UInt8}{p:Int}{i:Bool}{C:List UInt8}(h:(JM (AA.mk j o g p i) C).isSome=a'):AHM.F [.agg ([.int .i64 j,.str o,.str g,.int .i64 p,.bool i]),.ptr 1 [.str C] 0 0]=⟨a',.bool (gd (JM (AA.mk j o g p i) C)),[.any,.any]⟩:=Cj ADB trivial
noncomputable def qA:Bl:=Aj a6 Tryz.f216 [0,1,4,5,7,9,10,11,12] [] [] [(234,8,4)]
noncomputable def rn:List (Nat×Ar):=[(217,AHM)]
instance:SdL a6 rn:=by unfold rn;infer_instance
noncomputable abbrev AHL:Ar:=Cw rn qA [.bor,.bor]
instance:Sd a6 216 AHL:=Aq
noncomputable def jA(c:List UInt8)(t9:List AA)(t10:Int):((List AA)×Int)->St
 | (out,g)=>⟨[.any,.fn (.func 217) [] [.ptr 1 [.str c] 0 0],.any,.own 3200000,.any,.sl 5 (a7 AC t9),.int .i64 t10,.int .i64 g,.any],[],[(3200000,⟨5,a7 AC out⟩)],a'⟩
noncomputable def iH(c:List UInt8)(t9:List AA)(t10:Int)(y:(List AA)):FU:=(.exit 0,⟨[.any,.any,.any,.own 3200000,.any,.any,.any,.any,.any],[],[(3200000,⟨5,a7 AC y⟩)],a'⟩)
attribute [local go_sem] Az rn jA iH in
theorem Gp{c:List UInt8}{t9:List AA}{t10:Int}{g:(List AA)×Int}{i:(List AA)}(h:AE (Az c t9 t10) g=b2 i):∃ j,∀ L,j<=L->Jj rn L qA 0 (jA c t9 t10 g)=iH c t9 t10 i:=LF qA trivial
attribute [local go_sem] BI rn jA iH in
@[go_sem]theorem G_73{i:List AA}{g:List UInt8}(h:(BI i g).isSome=a'):AHL.F [.sl 5 (a7 AC i),.fn (.func 217) [] [.ptr 1 [.str g] 0 0]]=⟨a',.fresh 5 (a7 AC (gd (BI i g))),[.any,.any]⟩:=Cj qA @Gp
noncomputable def ACm:Bl:=Aj a6 Tryz.f251 [0,2] [] [] []
noncomputable abbrev AHK:Ar:=Cw [] ACm [.bor]
instance:Sd a6 251 AHK:=Aq
attribute [local go_sem] IY in
@[go_sem]theorem G_74{g:List Int}(h:(IY g).isSome=a'):AHK.F [.sl 1 (a7 (b0 .i64) g)]=⟨a',.int .i64 (gd (IY g)),[.any]⟩:=Cj ACm trivial
noncomputable def ACf:Bl:=Aj a6 Tryz.f275 [0,1,4,5] [] [] []
noncomputable abbrev ABT:Ar:=Cw [] ACf [.bor,.bor]
instance:Sd a6 275 ABT:=Aq
attribute [local go_sem] EP in
@[go_sem]theorem G_75{a b:Int}(h:(EP a b).isSome=a'):ABT.F [.int .i64 a,.int .i64 b]=⟨a',.int .i64 (gd (EP a b)),[.any,.any]⟩:=Cj ACf trivial
noncomputable def ACn:Bl:=Aj a6 Tryz.f250 [0,1,4,5,6] [] [] []
noncomputable abbrev AHJ:Ar:=Cw [(275,ABT)] ACn [.bor,.bor]
instance:Sd a6 250 AHJ:=Aq
attribute [local go_sem] LY in
@[go_sem]theorem G_76{g i:Int}(h:(LY g i).isSome=a'):AHJ.F [.int .i64 g,.int .i64 i]=⟨a',.int .i64 (gd (LY g i)),[.any,.any]⟩:=Cj ACn trivial
noncomputable def ADA:Bl:=Aj a6 Tryz.f218 [0,2] [] [] []
noncomputable abbrev AHI:Ar:=Cw [(161,ABU),(251,AHK),(250,AHJ)] ADA [.bor]
instance:Sd a6 218 AHI:=Aq
attribute [local go_sem] NJ in
@[go_sem]theorem G_77{g:List Int}(h:(NJ g).isSome=a'):AHI.F [.sl 1 (a7 (b0 .i64) g)]=⟨a',.int .i64 (gd (NJ g)),[.any]⟩:=Cj ADA trivial
noncomputable def eE:Bl:=Aj a6 Tryz.f163 [0,1,3,4,5,6,7,8,9,10] [] [] [(224,64,24),(992,992,24)]
noncomputable def jW:List (Nat×Ar):=[(70,oO),(168,gX),(216,AHL),(218,AHI)]
instance:SdL a6 jW:=by unfold jW;infer_instance
noncomputable abbrev AHH:Ar:=Cw jW eE [.bor,.bor]
instance:Sd a6 163 AHH:=Aq
noncomputable def YE(j:List AA)(out:List AJ)(g:Int):(Int×(List Int))->St
 | (i,o)=>⟨[.any,.any,.any,.any,.any,.own 3200000,.own 3200032,.int .i64 i,.own 3200064,.int .i64 g],[],[(3200000,⟨5,a7 AC j⟩),(3200032,⟨2,a7 AP out⟩),(3200064,⟨1,a7 (b0 .i64) o⟩)],a'⟩
noncomputable def Xz(i:List AA)(out:List AJ)(g:Int)(y:Int×(List Int)):FU:=(.exit 3,⟨[.any,.any,.any,.any,.any,.own 3200000,.own 3200032,.int .i64 y.1,.own 3200064,.int .i64 g],[],[(3200000,⟨5,a7 AC i⟩),(3200032,⟨2,a7 AP out⟩),(3200064,⟨1,a7 (b0 .i64) y.2⟩)],a'⟩)
attribute [local go_sem] Fk jW YE Xz in
theorem Nj{i:List AA}{out:List AJ}{g:Int}{j o:Int×(List Int)}(h:AE (Fk i out g) j=b2 o):∃ p,∀ L,p<=L->Jj jW L eE 1 (YE i out g j)=Xz i out g o:=LF eE trivial
noncomputable def iz(g:List AA):((List AJ)×Int)->St
 | (out,i)=>⟨[.any,.any,.any,.any,.any,.own 3200000,.own 3200032,.int .i64 i,.any,.any],[],[(3200000,⟨5,a7 AC g⟩),(3200032,⟨2,a7 AP out⟩)],a'⟩
noncomputable def iG(g:List AA)(y:(List AJ)):FU:=(.exit 1,⟨[.any,.any,.any,.any,.any,.any,.own 3200000,.any,.any,.any],[],[(3200000,⟨2,a7 AP y⟩)],a'⟩)
attribute [local go_sem] Gy jW iz iG YE Xz in
theorem TN{g:List AA}{i:(List AJ)×Int}{j:(List AJ)}(h:AE (Gy g) i=b2 j):∃ o,∀ L,o<=L->Jj jW L eE 0 (iz g i)=iG g j:=LF eE @Nj
attribute [local go_sem] Iy jW YE Xz iz iG in
@[go_sem]theorem G_78{i:List AA}{g:List UInt8}(h:(Iy i g).isSome=a'):AHH.F [.sl 5 (a7 AC i),.str g]=⟨a',.tup [.fresh 2 (a7 AP ((gd (Iy i g)).1)),.int .i64 ((gd (Iy i g)).2)],[.any,.any]⟩:=Cj eE (an @Nj @TN)
noncomputable def kd:Bl:=Aj a6 Tryz.f219 [0,2,3,4,8,9,10,11] [(602,16)] [] [(113,0,2)]
noncomputable def cD:List (Nat×Ar):=[(182,uN),(181,oP)]
instance:SdL a6 cD:=by unfold cD;infer_instance
noncomputable abbrev xu:Ar:=Cw cD kd [.bor]
instance:Sd a6 219 xu:=Aq
noncomputable def YD(g i:List AJ)(t9:Int):Int->St
 | t10=>⟨[.sl 2 (a7 AP g),.any,.any,.any,.sl 2 (a7 AP i),.int .i64 t9,.int .i64 t10,.any],[],[],a'⟩
noncomputable def Xy(g i:List AJ)(t9:Int):(Unit⊕Bool)->FU
 | .inl y=>(.exit 0,⟨[.any,.any,.any,.any,.any,.any,.any,.any],[],[],a'⟩)
 | .inr y=>(.ret,⟨[.any,.bool y,.any,.any,.any,.any,.any,.any],[],[],a'⟩)
attribute [local go_sem] YD Xy in
theorem Qd{I t8:List AJ}{t9 ax:Int}{ay:Unit⊕Bool}(h:AE (Ce I t8 t9) ax=b2 ay):∃ L0,∀ L,L0<=L->Jj cD L kd 0 (YD I t8 t9 ax)=Xy I t8 t9 ay:=by
 have aa:kd=kd:=rfl
 conv at aa=>rhs;cbv
 simp only[aa,Jj,NX,JZ,b4,b5];refine KG (E:=YD I t8 t9) (R:=Xy I t8 t9) (fun y=>by first|(intro c;cases c)|(rcases y with y|y<;>(intro c;cases c))|(rcases y with y|y|y<;>(intro c;cases c))) ?_ h;clear h;intro t10 o_ h;dsimp only[Ce] at h;rcases Ab h with⟨p,h⟩|⟨p,h⟩
 ·try simp only[go_sem,n1,n2,n3,n4] at p
  all_goals
  obtain⟨J,h⟩:=AO h;have ad:=GX J;have aj:=BX AP t8 ad;try simp only[go_sem] at ad
  try simp only[go_sem] at aj
  try simp only[go_sem,n1,n2,n3,n4,p] at J
  all_goals
  obtain⟨a9,z4,h⟩:=AN h;have au:=AMS z4;try simp only[go_sem,p,J] at au
  obtain⟨z5,h⟩:=AO h;rcases EX z5 with⟨j,z5⟩|j
  ·try simp only[go_sem,n1,n2,n3,n4,p,J] at j
   all_goals
   obtain⟨a8,o⟩:=zX z5;have av:=AMU o;try simp only[go_sem,n1,n2,n3,n4,p,J,j] at o
   all_goals
   try simp only[go_sem,p,J,j] at av
   obtain⟨z6,h⟩:=AO h;rcases EX z6 with⟨ae,z6⟩|ae
   ·try simp only[go_sem,n1,n2,n3,n4,p,J,j,o] at ae
    all_goals
    have a1:=GX z6;have a3:=BX AP I a1;try simp only[go_sem] at a1
    try simp only[go_sem] at a3
    try simp only[go_sem,n1,n2,n3,n4,p,J,j,o,ae] at z6
    all_goals
    rcases Ab h with⟨U,h⟩|⟨U,h⟩
    all_goals
    try simp only[go_sem,n1,n2,n3,n4,p,J,j,o,ae,z6] at U
    all_goals
    obtain rfl:=AR h;refine⟨0,fun L hL=>?_⟩;simp only[go_sem,aa,cD,p,J,ad,aj,au,j,o,av,ae,z6,a1,a3,U]
   ·rcases AEd ae with ao|⟨ao,ac⟩
    ·have ab:=Nu ao;rcases AAK ab with C|⟨C,P⟩
     ·try simp only[go_sem,n1,n2,n3,n4,p,J,j,o] at C
      all_goals
      (simp_all)
     ·have g:=Nu C;have i:=SM P;try simp only[go_sem,n1,n2,n3,n4,p,J,j,o] at g
      all_goals
      try simp only[go_sem,n1,n2,n3,n4,p,J,j,o,g] at i
      all_goals
      rcases Ab h with⟨U,h⟩|⟨U,h⟩
      ·try simp only[go_sem,n1,n2,n3,n4,p,J,j,o,g,i] at U
       all_goals
       obtain rfl:=AR h;refine⟨0,fun L hL=>?_⟩;simp only[go_sem,aa,cD,p,J,ad,aj,au,j,o,av,g,i,U]
      ·try simp only[go_sem,n1,n2,n3,n4,p,J,j,o,g,i] at U
       all_goals
       (simp_all)
    ·have ab:=SM ao;obtain⟨C,P⟩:=AFx ab;have g:=Nu C;have i:=Nu P;try simp only[go_sem,n1,n2,n3,n4,p,J,j,o] at g
     all_goals
     try simp only[go_sem,n1,n2,n3,n4,p,J,j,o,g] at i
     all_goals
     try simp only[go_sem,n1,n2,n3,n4,p,J,j,o,g,i] at ac
     all_goals
     rcases Ab h with⟨U,h⟩|⟨U,h⟩
     ·try simp only[go_sem,n1,n2,n3,n4,p,J,j,o,g,i,ac] at U
      all_goals
      (simp_all)
     ·try simp only[go_sem,n1,n2,n3,n4,p,J,j,o,g,i,ac] at U
      all_goals
      obtain rfl:=AR h;refine⟨0,fun L hL=>?_⟩;simp only[go_sem,aa,cD,p,J,ad,aj,au,j,o,av,g,i,ac,U]
  ·have a4:=Nu j;have T:=SM a4;try simp only[go_sem,n1,n2,n3,n4,p,J] at T
   all_goals
   obtain⟨z6,h⟩:=AO h;rcases Ab h with⟨U,h⟩|⟨U,h⟩
   ·try simp only[go_sem,n1,n2,n3,n4,p,J,T] at U
    all_goals
    obtain rfl:=AR h;refine⟨0,fun L hL=>?_⟩;simp only[go_sem,aa,cD,p,J,ad,aj,au,T,U]
   ·try simp only[go_sem,n1,n2,n3,n4,p,J,T] at U
    all_goals
    (simp_all)
 ·try simp only[go_sem,n1,n2,n3,n4] at p
  all_goals
  obtain rfl:=AR h;refine⟨0,fun L hL=>?_⟩;simp only[go_sem,aa,cD,p]
attribute [local go_sem] EE cD YD Xy in
@[go_sem]theorem G_79{g:List AJ}(h:(EE g).isSome=a'):xu.F [.sl 2 (a7 AP g)]=⟨a',.bool (gd (EE g)),[.any]⟩:=Cj kd @Qd
noncomputable def ACl:Bl:=Aj a6 Tryz.f252 [0,1,2] [] [] []
noncomputable abbrev AHG:Ar:=Cw [(154,cU)] ACl [.bor]
instance:Sd a6 252 AHG:=Aq
attribute [local go_sem] Et in
@[go_sem]theorem G_80{i j g:Int}(h:(Et (CB.mk i j g)).isSome=a'):AHG.F [.agg ([.int .i64 i,.int .i64 j,.int .i64 g])]=⟨a',.bool (gd (Et (CB.mk i j g))),[.any]⟩:=Cj ACl trivial
noncomputable def ACz:Bl:=Aj a6 Tryz.f223 [0,1,2,4,6] [] [] []
noncomputable abbrev AHF:Ar:=Cw [(219,xu),(252,AHG)] ACz [.bor,.bor,.bor]
instance:Sd a6 223 AHF:=Aq
attribute [local go_sem] JJ in
@[go_sem]theorem G_81{o:List AJ}{i p g j:Int}(h:(JJ o (CB.mk i p g) j).isSome=a'):AHF.F [.sl 2 (a7 AP o),.agg ([.int .i64 i,.int .i64 p,.int .i64 g]),.int .i64 j]=⟨a',.int .i64 (gd (JJ o (CB.mk i p g) j)),[.any,.any,.any]⟩:=Cj ACz trivial
noncomputable def py:Bl:=Aj a6 Tryz.f225 [0,1,2,3,4] [] [] [(26,8,4)]
noncomputable def zg:List (Nat×Ar):=[]
instance:SdL a6 zg:=SdL0
noncomputable abbrev AHE:Ar:=Cw zg py [.bor]
instance:Sd a6 225 AHE:=Aq
noncomputable def iy(x:CB):((List Int)×Int)->St
 | (out,p)=>⟨[.any,.ref 3200000 0 0,.any,.own 3200032,.int .i64 p],[],[(3200000,⟨3,[PU x]⟩),(3200032,⟨1,a7 (b0 .i64) out⟩)],a'⟩
noncomputable def iF(x:CB)(y:(List Int)):FU:=(.exit 0,⟨[.any,.any,.any,.own 3200000,.any],[],[(3200000,⟨1,a7 (b0 .i64) y⟩)],a'⟩)
attribute [local go_sem] Dl iy iF in
theorem Nx{x:CB}{g:(List Int)×Int}{i:(List Int)}(h:AE (Dl x) g=b2 i):∃ j,∀ L,j<=L->Jj zg L py 0 (iy x g)=iF x i:=LF py trivial
attribute [local go_sem] Ef zg iy iF in
@[go_sem]theorem G_82{i j g:Int}(h:(Ef (CB.mk i j g)).isSome=a'):AHE.F [.agg ([.int .i64 i,.int .i64 j,.int .i64 g])]=⟨a',.fresh 1 (a7 (b0 .i64) (gd (Ef (CB.mk i j g)))),[.any]⟩:=Cj py @Nx
noncomputable def ACe:Bl:=Aj a6 Tryz.f278 [0,2] [] [] []
noncomputable abbrev AHD:Ar:=Cw [] ACe [.bor]
instance:Sd a6 278 AHD:=Aq
attribute [local go_sem] JK in
@[go_sem]theorem G_83{t0:Int}(h:(JK t0).isSome=a'):AHD.F [.int .i64 t0]=⟨a',.bool (gd (JK t0)),[.any]⟩:=Cj ACe trivial
noncomputable def pt:Bl:=Aj a6 Tryz.f277 [0,1,4,5,6,8,9,10] [] [] [(106,8,4)]
noncomputable def rm:List (Nat×Ar):=[(278,AHD)]
instance:SdL a6 rm:=by unfold rm;infer_instance
noncomputable abbrev AHC:Ar:=Cw rm pt [.bor,.bor]
instance:Sd a6 277 AHC:=Aq
noncomputable def iw(g:Int):((List Int)×Int)->St
 | (out,t9)=>⟨[.any,.fn (.func 278) [] [],.any,.own 3200000,.any,.int .i64 g,.int .i64 t9,.any],[],[(3200000,⟨1,a7 (b0 .i64) out⟩)],a'⟩
noncomputable def iD(g:Int)(y:(List Int)):FU:=(.exit 0,⟨[.any,.any,.any,.own 3200000,.any,.any,.any,.any],[],[(3200000,⟨1,a7 (b0 .i64) y⟩)],a'⟩)
attribute [local go_sem] BW rm iw iD in
theorem Jb{j:Int}{g:(List Int)×Int}{i:(List Int)}(h:AE (BW j) g=b2 i):∃ o,∀ L,o<=L->Jj rm L pt 0 (iw j g)=iD j i:=LF pt trivial
attribute [local go_sem] Bf rm iw iD in
@[go_sem]theorem G_84{n:Int}(h:(Bf n).isSome=a'):AHC.F [.int .i64 n,.fn (.func 278) [] []]=⟨a',.fresh 1 (a7 (b0 .i64) (gd (Bf n))),[.any,.any]⟩:=Cj pt @Jb
noncomputable def ACb:Bl:=Aj a6 Tryz.f281 [0,1,4] [] [] []
noncomputable abbrev AHB:Ar:=Cw [(275,ABT)] ACb [.bor,.bor]
instance:Sd a6 281 AHB:=Aq
attribute [local go_sem] Ni in
@[go_sem]theorem G_85{a b:Int}(h:(Ni a b).isSome=a'):AHB.F [.int .i64 a,.int .i64 b]=⟨a',.int .i64 (gd (Ni a b)),[.any,.any]⟩:=Cj ACb trivial
noncomputable def ACi:Bl:=Aj a6 Tryz.f257 [0,1,2,4] [] [] []
noncomputable abbrev AHA:Ar:=Cw [(281,AHB)] ACi [.bor,.bor]
instance:Sd a6 257 AHA:=Aq
attribute [local go_sem] DX in
@[go_sem]theorem G_86{i g j:Int}(h:(DX (AF.mk i g) j).isSome=a'):AHA.F [.agg ([.int .i64 i,.int .i64 g]),.int .i64 j]=⟨a',.int .i64 (gd (DX (AF.mk i g) j)),[.any,.any]⟩:=Cj ACi trivial
noncomputable def ACj:Bl:=Aj a6 Tryz.f256 [0,1,2,4] [(106,16)] [] []
noncomputable abbrev AGz:Ar:=Cw [(257,AHA)] ACj [.bor,.bor,.bor]
instance:Sd a6 256 AGz:=Aq
attribute [local go_sem] DS in
@[go_sem]theorem G_87{i j g:Int}{o:List AJ}(h:(DS i (AF.mk j g) o).isSome=a'):AGz.F [.int .i64 i,.ptr 2 [(.agg ([.int .i64 j,.int .i64 g]))] 0 0,.ptr 1 [.sl 2 (a7 AP o)] 0 0]=⟨a',.int .i64 (gd (DS i (AF.mk j g) o)),[.any,.any,.any]⟩:=Cj ACj trivial
noncomputable def ACc:Bl:=Aj a6 Tryz.f280 [0,1,2,5,6,7] [(102,32),(105,32)] [] []
noncomputable abbrev oN:Ar:=Cw [(256,AGz)] ACc [.bor,.bor,.bor]
instance:Sd a6 280 oN:=Aq
attribute [local go_sem] BL in
@[go_sem]theorem ALH{a b i g:Int}{j:List AJ}(h:(BL a b (AF.mk i g) j).isSome=a'):oN.F [.int .i64 a,.int .i64 b,.ptr 1 [.fn (.func 256) [] [.ptr 2 [(.agg ([.int .i64 i,.int .i64 g]))] 0 0,.ptr 1 [.sl 2 (a7 AP j)] 0 0]] 0 0]=⟨a',.int .i64 (gd (BL a b (AF.mk i g) j)),[.any,.any,.any]⟩:=Cj ACc trivial
theorem mO{a b:Int}{i:AF}{g:List AJ}{j:Int}(h:BL a b i g=b2 j):oN.F [.int .i64 a,.int .i64 b,.ptr 1 [.fn (.func 256) [] [.ptr 2 [BK i] 0 0,.ptr 1 [.sl 2 (a7 AP g)] 0 0]] 0 0]=⟨a',.int .i64 j,[.any,.any,.any]⟩:=by
 have q:=ALH (MZ h);simp only[h,BA] at q;exact q
noncomputable def ZI:Bl:=Aj a6 Tryz.f295 [0,1,2,3,8,9] [(601,64),(603,64),(604,64),(606,64),(607,64),(611,64)] [(6,[],[[0,1,3,4,5,6,7,8,9,10,11,12,13,14,2,15,16,17],[0,1,3,4,5,6,7,8,9,10,11,12,13,14,15,2,16,17]])] [(31,1,1),(63,31,1)]
noncomputable def XM:List (Nat×Ar):=[(280,oN)]
instance:SdL a6 XM:=by unfold XM;infer_instance
noncomputable abbrev AGy:Ar:=Xl XM ZI [.io,.bor,.bor,.bor]
instance:Sd a6 295 AGy:=SN
noncomputable def VL(a b:Int)(c:AF)(c2:List AJ)(i:Int):((List Int)×Int)->St
 | (data,j)=>⟨[.own 31,.int .i64 a,.int .i64 b,.fn (.func 280) [] [.ptr 1 [.fn (.func 256) [] [.ptr 2 [BK c] 0 0,.ptr 1 [.sl 2 (a7 AP c2)] 0 0]] 0 0],.int .i64 i,.int .i64 j],[],[(31,⟨1,a7 (b0 .i64) data⟩)],a'⟩
noncomputable def Ux(a b:Int)(c:AF)(c2:List AJ)(i:Int)(y:(List Int)):FU:=(.exit 2,⟨[.own 31,.int .i64 a,.int .i64 b,.fn (.func 280) [] [.ptr 1 [.fn (.func 256) [] [.ptr 2 [BK c] 0 0,.ptr 1 [.sl 2 (a7 AP c2)] 0 0]] 0 0],.int .i64 i,.any],[],[(31,⟨1,a7 (b0 .i64) y⟩)],a'⟩)
attribute [local go_sem] VL Ux in
theorem Cz{a b:Int}{c:AF}{c2:List AJ}{i:Int}{ae:(List Int)×Int}{aj:(List Int)}(h:AE (Bq a b c c2 i) ae=b2 aj):∃ L0,∀ L,L0<=L->Jj XM L ZI 1 (VL a b c c2 i ae)=Ux a b c c2 i aj:=by
 have T:ZI=ZI:=rfl
 conv at T=>rhs;cbv
 simp only[T,Jj,NX,JZ,b4,b5];refine KG (E:=VL a b c c2 i) (R:=Ux a b c c2 i) (fun y=>by first|(intro c;cases c)|(rcases y with y|y<;>(intro c;cases c))|(rcases y with y|y|y<;>(intro c;cases c))) ?_ h;clear h;rintro⟨data,j⟩ o_ h;dsimp only[Bq] at h;obtain⟨C,h⟩:=AO h;rcases EX C with⟨g,C⟩|g
 ·try simp only[go_sem,n1,n2,n3,n4] at g
  all_goals
  have U:=GX C;have aa:=BX (b0 .i64) data U;try simp only[go_sem] at U
  try simp only[go_sem] at aa
  try simp only[go_sem,n1,n2,n3,n4,g] at C
  all_goals
  obtain⟨J,h⟩:=AO h;rcases EX J with⟨o,J⟩|o
  ·try simp only[go_sem,n1,n2,n3,n4,g,C] at o
   all_goals
   have ab:=GX J;have ac:=BX (b0 .i64) data ab;try simp only[go_sem] at ab
   try simp only[go_sem] at ac
   try simp only[go_sem,n1,n2,n3,n4,g,C,o] at J
   all_goals
   obtain⟨z4,h⟩:=AO h;rcases EX z4 with⟨p,z4⟩|p
   ·try simp only[go_sem,n1,n2,n3,n4,g,C,o,J] at p
    all_goals
    obtain⟨a4,P⟩:=zX z4;have au:=mO P;try simp only[go_sem,n1,n2,n3,n4,g,C,o,J,p] at P
    all_goals
    try simp only[go_sem,g,C,o,J,p] at au
    rcases Ab h with⟨I,h⟩|⟨I,h⟩
    ·try simp only[go_sem,n1,n2,n3,n4,g,C,o,J,p,P] at I
     all_goals
     obtain⟨z6,h⟩:=AO h;have ad:=GX z6;have a0:=BX (b0 .i64) data ad;try simp only[go_sem] at ad
     try simp only[go_sem] at a0
     try simp only[go_sem,n1,n2,n3,n4,g,C,o,J,p,P,I] at z6
     all_goals
     obtain⟨z7,h⟩:=AO h;have ao:=GX z7;have ay:=BX (b0 .i64) data ao;try simp only[go_sem] at ao
     try simp only[go_sem] at ay
     try simp only[go_sem,n1,n2,n3,n4,g,C,o,J,p,P,I,z6] at z7
     all_goals
     have ax:=(by rw[← b7];exact BX (b0 .i64) (data.set j.toNat (data.getD (i64.wrap (j-1)).toNat b3)) (by first|(rw[b6];exact ad)|(simp;omega)):((a7 (b0 .i64) data).set j.toNat ((b0 .i64) (data.getD (i64.wrap (j-1)).toNat b3))).getD ((i64.wrap (j-1)).toNat) .any=(b0 .i64) ((data.set j.toNat (data.getD (i64.wrap (j-1)).toNat b3)).getD ((i64.wrap (j-1)).toNat) b3));try simp only[go_sem] at ax
     obtain rfl:=AR h;refine⟨0,fun L hL=>?_⟩;simp only[go_sem,T,XM,g,C,U,aa,o,J,ab,ac,p,P,au,I,z6,ad,a0,z7,ao,ay,ax]
    ·try simp only[go_sem,n1,n2,n3,n4,g,C,o,J,p,P] at I
     all_goals
     obtain rfl:=AR h;refine⟨0,fun L hL=>?_⟩;simp only[go_sem,T,XM,g,C,U,aa,o,J,ab,ac,p,P,au,I]
   ·try simp only[go_sem,n1,n2,n3,n4,g,C,o,J] at p
    all_goals
    rcases Ab h with⟨I,h⟩|⟨I,h⟩
    ·try simp only[go_sem,n1,n2,n3,n4,g,C,o,J,p] at I
     all_goals
     (simp_all)
    ·try simp only[go_sem,n1,n2,n3,n4,g,C,o,J,p] at I
     all_goals
     obtain rfl:=AR h;refine⟨0,fun L hL=>?_⟩;simp only[go_sem,T,XM,g,C,U,aa,o,J,ab,ac,p,I]
  ·try simp only[go_sem,n1,n2,n3,n4,g,C] at o
   all_goals
   obtain⟨z4,h⟩:=AO h;rcases Ab h with⟨I,h⟩|⟨I,h⟩
   ·try simp only[go_sem,n1,n2,n3,n4,g,C,o] at I
    all_goals
    (simp_all)
   ·try simp only[go_sem,n1,n2,n3,n4,g,C,o] at I
    all_goals
    obtain rfl:=AR h;refine⟨0,fun L hL=>?_⟩;simp only[go_sem,T,XM,g,C,U,aa,o,I]
 ·try simp only[go_sem,n1,n2,n3,n4] at g
  all_goals
  obtain⟨J,h⟩:=AO h;obtain⟨z4,h⟩:=AO h;rcases Ab h with⟨I,h⟩|⟨I,h⟩
  ·try simp only[go_sem,n1,n2,n3,n4,g] at I
   all_goals
   (simp_all)
  ·try simp only[go_sem,n1,n2,n3,n4,g] at I
   all_goals
   obtain rfl:=AR h;refine⟨0,fun L hL=>?_⟩;simp only[go_sem,T,XM,g,I]
noncomputable def iv(a b:Int)(c:AF)(c2:List AJ):((List Int)×Int)->St
 | (data,i)=>⟨[.own 31,.int .i64 a,.int .i64 b,.fn (.func 280) [] [.ptr 1 [.fn (.func 256) [] [.ptr 2 [BK c] 0 0,.ptr 1 [.sl 2 (a7 AP c2)] 0 0]] 0 0],.int .i64 i,.any],[],[(31,⟨1,a7 (b0 .i64) data⟩)],a'⟩
noncomputable def iC(a b:Int)(c:AF)(c2:List AJ)(y:(List Int)):FU:=(.exit 0,⟨[.own 31,.any,.any,.any,.any,.any],[],[(31,⟨1,a7 (b0 .i64) y⟩)],a'⟩)
attribute [local go_sem] Br XM iv iC VL Ux in
theorem FN{a b:Int}{c:AF}{c2:List AJ}{g:(List Int)×Int}{i:(List Int)}(h:AE (Br a b c c2) g=b2 i):∃ j,∀ L,j<=L->Jj XM L ZI 0 (iv a b c c2 g)=iC a b c c2 i:=LF ZI @Cz
attribute [local go_sem] BC XM VL Ux iv iC in
@[go_sem]theorem G_89{data:List Int}{a b i g:Int}{j:List AJ}(h:(BC data a b (AF.mk i g) j).isSome=a'):AGy.F [.fresh 1 (a7 (b0 .i64) data),.int .i64 a,.int .i64 b,.fn (.func 280) [] [.ptr 1 [.fn (.func 256) [] [.ptr 2 [(.agg ([.int .i64 i,.int .i64 g]))] 0 0,.ptr 1 [.sl 2 (a7 AP j)] 0 0]] 0 0]]=⟨a',.cv undef,[.fresh 1 (a7 (b0 .i64) (gd (BC data a b (AF.mk i g) j))),.any,.any,.any]⟩:=Cj ZI (an @Cz @FN)
noncomputable def kc:Bl:=Aj a6 Tryz.f298 [0,1,2,3,4,10] [(301,64),(302,64),(303,64),(305,64),(306,64),(307,64),(309,64),(310,64),(311,64),(315,64),(316,64),(317,64)] [(3,[],[[0,1,2,3,5,6,7,8,9,10,11,12,13,14,15,16,17,18,19,20,4,21,22,23],[0,1,2,3,5,6,7,8,9,10,11,12,13,14,15,16,17,18,19,20,21,4,22,23]])] [(47,1,1)]
noncomputable def rl:List (Nat×Ar):=[]
instance:SdL a6 rl:=SdL0
noncomputable abbrev AGx:Ar:=Xl rl kc [.io,.bor,.bor,.bor,.bor]
instance:Sd a6 298 AGx:=SN
noncomputable def VK(a b n:Int):((List Int)×Int)->St
 | (data,i)=>⟨[.own 31,.int .i64 a,.int .i64 b,.int .i64 n,.any,.int .i64 i],[],[(31,⟨1,a7 (b0 .i64) data⟩)],a'⟩
noncomputable def Uw(a b n:Int)(y:(List Int)):FU:=(.exit 0,⟨[.own 31,.any,.any,.any,.any,.any],[],[(31,⟨1,a7 (b0 .i64) y⟩)],a'⟩)
theorem Fx{a b n:Int}{o:(List Int)×Int}{p:(List Int)}(h:AE (CL a b n) o=b2 p):∃ L0,∀ L,L0<=L->Jj rl L kc 0 (VK a b n o)=Uw a b n p:=by
 have j:kc=kc:=rfl
 conv at j=>rhs;cbv
 simp only[j,Jj,NX,JZ,b4,b5];refine KG (E:=VK a b n) (R:=Uw a b n) (fun y=>by first|(intro c;cases c)|(rcases y with y|y<;>(intro c;cases c))|(rcases y with y|y|y<;>(intro c;cases c))) ?_ h;clear h;rintro⟨data,i⟩ o_ h;dsimp only[CL] at h;rcases Ab h with⟨C,h⟩|⟨C,h⟩
 ·try simp only[go_sem,n1,n2,n3,n4] at C
  all_goals
  obtain⟨U,h⟩:=AO h;have g:=GX U;have T:=BX (b0 .i64) data g;try simp only[go_sem] at g
  try simp only[go_sem] at T
  try simp only[go_sem,n1,n2,n3,n4,C] at U
  all_goals
  obtain⟨z3,h⟩:=AO h;have I:=GX z3;have P:=BX (b0 .i64) data I;try simp only[go_sem] at I
  try simp only[go_sem] at P
  try simp only[go_sem,n1,n2,n3,n4,C,U] at z3
  all_goals
  have J:=(by rw[← b7];exact BX (b0 .i64) (data.set ((i64.wrap (a+i)).toNat) (data.getD (i64.wrap (b+i)).toNat b3)) (by first|(rw[b6];exact g)|(simp;omega)):((a7 (b0 .i64) data).set ((i64.wrap (a+i)).toNat) ((b0 .i64) (data.getD (i64.wrap (b+i)).toNat b3))).getD ((i64.wrap (b+i)).toNat) .any=(b0 .i64) ((data.set ((i64.wrap (a+i)).toNat) (data.getD (i64.wrap (b+i)).toNat b3)).getD ((i64.wrap (b+i)).toNat) b3));try simp only[go_sem] at J
  obtain rfl:=AR h;refine⟨0,fun L hL=>?_⟩;simp only[go_sem,j,rl,VK,Uw,C,U,g,T,z3,I,P,J]
 ·try simp only[go_sem,n1,n2,n3,n4] at C
  all_goals
  obtain rfl:=AR h;refine⟨0,fun L hL=>?_⟩;simp only[go_sem,j,rl,VK,Uw,C]
attribute [local go_sem] Av rl VK Uw in
@[go_sem]theorem G_90{data:List Int}{a b n i g:Int}{j:List AJ}(h:(Av data a b n (AF.mk i g) j).isSome=a'):AGx.F [.fresh 1 (a7 (b0 .i64) data),.int .i64 a,.int .i64 b,.int .i64 n,.fn (.func 280) [] [.ptr 1 [.fn (.func 256) [] [.ptr 2 [(.agg ([.int .i64 i,.int .i64 g]))] 0 0,.ptr 1 [.sl 2 (a7 AP j)] 0 0]] 0 0]]=⟨a',.cv undef,[.fresh 1 (a7 (b0 .i64) (gd (Av data a b n (AF.mk i g) j))),.any,.any,.any,.any]⟩:=Cj kc @Fx
noncomputable def pr:Bl:=Aj a6 Tryz.f297 [0,1,2,3,4,10,11] [] [] [(117,53,1)]
noncomputable def rk:List (Nat×Ar):=[(298,AGx)]
instance:SdL a6 rk:=by unfold rk;infer_instance
noncomputable abbrev uL:Ar:=Xl rk pr [.io,.bor,.bor,.bor,.bor]
instance:Sd a6 297 uL:=SN
noncomputable def iu(m:Int)(c:AF)(c2:List AJ):((List Int)×Int×Int)->St
 | (data,i,j)=>⟨[.own 31,.any,.int .i64 m,.any,.fn (.func 280) [] [.ptr 1 [.fn (.func 256) [] [.ptr 2 [BK c] 0 0,.ptr 1 [.sl 2 (a7 AP c2)] 0 0]] 0 0],.int .i64 i,.int .i64 j],[],[(31,⟨1,a7 (b0 .i64) data⟩)],a'⟩
noncomputable def iA(m:Int)(c:AF)(c2:List AJ)(y:(List Int)×Int):FU:=(.exit 0,⟨[.own 31,.any,.int .i64 m,.any,.fn (.func 280) [] [.ptr 1 [.fn (.func 256) [] [.ptr 2 [BK c] 0 0,.ptr 1 [.sl 2 (a7 AP c2)] 0 0]] 0 0],.int .i64 y.2,.any],[],[(31,⟨1,a7 (b0 .i64) y.1⟩)],a'⟩)
attribute [local go_sem] Cd rk iu iA in
theorem Gj{m:Int}{c:AF}{c2:List AJ}{g:(List Int)×Int×Int}{i:(List Int)×Int}(h:AE (Cd m c c2) g=b2 i):∃ j,∀ L,j<=L->Jj rk L pr 0 (iu m c c2 g)=iA m c c2 i:=LF pr trivial
attribute [local go_sem] BG rk iu iA in
@[go_sem]theorem ALG{data:List Int}{a m b i g:Int}{j:List AJ}(h:(BG data a m b (AF.mk i g) j).isSome=a'):uL.F [.fresh 1 (a7 (b0 .i64) data),.int .i64 a,.int .i64 m,.int .i64 b,.fn (.func 280) [] [.ptr 1 [.fn (.func 256) [] [.ptr 2 [(.agg ([.int .i64 i,.int .i64 g]))] 0 0,.ptr 1 [.sl 2 (a7 AP j)] 0 0]] 0 0]]=⟨a',.cv undef,[.fresh 1 (a7 (b0 .i64) (gd (BG data a m b (AF.mk i g) j))),.any,.any,.any,.any]⟩:=Cj pr @Gj
noncomputable def SX:Bl:=Aj a6 Tryz.f296 [0,1,2,3,4,10,11,12,13,14,15,16,17,18,19,20,21,22,23,24] [(509,32),(1101,64),(1103,64),(1104,64),(1106,64),(1107,64),(1111,64),(1709,32),(2301,64),(2303,64),(2304,64),(2306,64),(2307,64),(2311,64),(3511,32)] [(11,[],[[0,1,3,4,5,6,7,8,9,10,11,12,13,14,2,15,16,17],[0,1,3,4,5,6,7,8,9,10,11,12,13,14,15,2,16,17]]),(23,[],[[0,1,3,4,5,6,7,8,9,10,11,12,13,14,2,15,16,17],[0,1,3,4,5,6,7,8,9,10,11,12,13,14,15,2,16,17]])] [(115,35,1),(289,1,1),(1557,517,1),(4609,1,1),(253983,57375,1)]
noncomputable def AY:Nat->Ar
 | 0=>AIF [.io,.bor,.bor,.bor,.bor]
 | g+1=>Xl [(280,oN),(297,uL),(296,(AY g))] SX [.io,.bor,.bor,.bor,.bor]
theorem Dp(g:Nat):(AY g).modes=[.io,.bor,.bor,.bor,.bor]:=by cases g<;>rfl
theorem Dg(g:Nat):(AY g).flat=false:=by cases g<;>rfl
attribute [go_sem] Dp Dg
noncomputable def cC (g:Nat):List (Nat×Ar):=[(280,oN),(297,uL),(296,(AY g))]
theorem Gk(g:Nat):AY (g+1)=Xl (cC g) SX [.io,.bor,.bor,.bor,.bor]:=rfl
theorem Do:∀ g:Nat,Sd a6 296 (AY g)
 | 0=>⟨od⟩
 | g+1=>by
  haveI:=Do g
  haveI:SdL a6 (cC g):=by unfold cC;infer_instance
  exact SN (l:=cC g)
noncomputable def oM:Ar:=AY 64
instance:Sd a6 296 oM:=Do 64
theorem M_92:oM.modes=[.io,.bor,.bor,.bor,.bor]:=Dp 64
theorem AMV:oM.flat=false:=Dg 64
attribute [go_sem] M_92 AMV
noncomputable def ND(data:List Int)(a:Int)(c:AF)(c2:List AJ):(Int×Int)->St
 | (i,j)=>⟨[.own 31,.int .i64 a,.any,.any,.fn (.func 280) [] [.ptr 1 [.fn (.func 256) [] [.ptr 2 [BK c] 0 0,.ptr 1 [.sl 2 (a7 AP c2)] 0 0]] 0 0],.int .i64 i,.int .i64 j,.any,.any,.any,.any,.any,.any,.any,.any,.any,.any,.any,.any,.any],[],[(31,⟨1,a7 (b0 .i64) data⟩)],a'⟩
noncomputable def NC(data:List Int)(a:Int)(c:AF)(c2:List AJ)(y:Int):FU:=(.exit 0,⟨[.own 31,.int .i64 a,.any,.any,.any,.int .i64 y,.any,.any,.any,.any,.any,.any,.any,.any,.any,.any,.any,.any,.any,.any],[],[(31,⟨1,a7 (b0 .i64) data⟩)],a'⟩)
attribute [local go_sem] CT cC ND NC in
theorem GQ(j:Nat){data:List Int}{a:Int}{c:AF}{c2:List AJ}{g:Int×Int}{i:Int}(h:AE (CT data a c c2) g=b2 i):∃ o,∀ L,o<=L->Jj (cC j) L SX 0 (ND data a c c2 g)=NC data a c c2 i:=LF SX trivial
noncomputable def OQ(i:Int):((List Int)×Int)->St
 | (data,k)=>⟨[.own 31,.any,.any,.any,.any,.int .i64 i,.any,.any,.int .i64 k,.any,.any,.any,.any,.any,.any,.any,.any,.any,.any,.any],[],[(31,⟨1,a7 (b0 .i64) data⟩)],a'⟩
noncomputable def OP(i:Int)(y:(List Int)):FU:=(.exit 2,⟨[.own 31,.any,.any,.any,.any,.any,.any,.any,.any,.any,.any,.any,.any,.any,.any,.any,.any,.any,.any,.any],[],[(31,⟨1,a7 (b0 .i64) y⟩)],a'⟩)
attribute [local go_sem] OQ OP ND NC in
theorem GP(n_:Nat){i:Int}{P:(List Int)×Int}{T:(List Int)}(h:AE (CS i) P=b2 T):∃ L0,∀ L,L0<=L->Jj (cC n_) L SX 1 (OQ i P)=OP i T:=by
 have p:SX=SX:=rfl
 conv at p=>rhs;cbv
 simp only[p,Jj,NX,JZ,b4,b5];refine KG (E:=OQ i) (R:=OP i) (fun y=>by first|(intro c;cases c)|(rcases y with y|y<;>(intro c;cases c))|(rcases y with y|y|y<;>(intro c;cases c))) ?_ h;clear h;rintro⟨data,k⟩ o_ h;dsimp only[CS] at h;rcases Ab h with⟨U,h⟩|⟨U,h⟩
 ·try simp only[go_sem,n1,n2,n3,n4] at U
  all_goals
  obtain⟨o,h⟩:=AO h;have g:=GX o;have J:=BX (b0 .i64) data g;try simp only[go_sem] at g
  try simp only[go_sem] at J
  try simp only[go_sem,n1,n2,n3,n4,U] at o
  all_goals
  obtain⟨aa,h⟩:=AO h;have j:=GX aa;have I:=BX (b0 .i64) data j;try simp only[go_sem] at j
  try simp only[go_sem] at I
  try simp only[go_sem,n1,n2,n3,n4,U,o] at aa
  all_goals
  have C:=(by rw[← b7];exact BX (b0 .i64) (data.set k.toNat (data.getD (i64.wrap (k+1)).toNat b3)) (by first|(rw[b6];exact g)|(simp;omega)):((a7 (b0 .i64) data).set k.toNat ((b0 .i64) (data.getD (i64.wrap (k+1)).toNat b3))).getD ((i64.wrap (k+1)).toNat) .any=(b0 .i64) ((data.set k.toNat (data.getD (i64.wrap (k+1)).toNat b3)).getD ((i64.wrap (k+1)).toNat) b3));try simp only[go_sem] at C
  obtain rfl:=AR h;refine⟨0,fun L hL=>?_⟩;simp only[go_sem,p,cC,U,o,g,J,aa,j,I,C]
 ·try simp only[go_sem,n1,n2,n3,n4] at U
  all_goals
  obtain rfl:=AR h;refine⟨0,fun L hL=>?_⟩;simp only[go_sem,p,cC,U]
noncomputable def QP(data:List Int)(m:Int)(c:AF)(c2:List AJ):(Int×Int)->St
 | (i,j)=>⟨[.own 31,.any,.int .i64 m,.any,.fn (.func 280) [] [.ptr 1 [.fn (.func 256) [] [.ptr 2 [BK c] 0 0,.ptr 1 [.sl 2 (a7 AP c2)] 0 0]] 0 0],.any,.any,.any,.any,.int .i64 i,.int .i64 j,.any,.any,.any,.any,.any,.any,.any,.any,.any],[],[(31,⟨1,a7 (b0 .i64) data⟩)],a'⟩
noncomputable def QL(data:List Int)(m:Int)(c:AF)(c2:List AJ)(y:Int):FU:=(.exit 4,⟨[.own 31,.any,.int .i64 m,.any,.any,.any,.any,.any,.any,.int .i64 y,.any,.any,.any,.any,.any,.any,.any,.any,.any,.any],[],[(31,⟨1,a7 (b0 .i64) data⟩)],a'⟩)
attribute [local go_sem] CR cC QP QL in
theorem GO(j:Nat){data:List Int}{m:Int}{c:AF}{c2:List AJ}{g:Int×Int}{i:Int}(h:AE (CR data m c c2) g=b2 i):∃ o,∀ L,o<=L->Jj (cC j) L SX 2 (QP data m c c2 g)=QL data m c c2 i:=LF SX trivial
noncomputable def SE(i:Int):((List Int)×Int)->St
 | (data,k)=>⟨[.own 31,.any,.any,.any,.any,.any,.any,.any,.any,.int .i64 i,.any,.any,.int .i64 k,.any,.any,.any,.any,.any,.any,.any],[],[(31,⟨1,a7 (b0 .i64) data⟩)],a'⟩
noncomputable def SC(i:Int)(y:(List Int)):FU:=(.exit 6,⟨[.own 31,.any,.any,.any,.any,.any,.any,.any,.any,.any,.any,.any,.any,.any,.any,.any,.any,.any,.any,.any],[],[(31,⟨1,a7 (b0 .i64) y⟩)],a'⟩)
attribute [local go_sem] SE SC ND NC OQ OP QP QL in
theorem GN(n_:Nat){i:Int}{T:(List Int)×Int}{U:(List Int)}(h:AE (CQ i) T=b2 U):∃ L0,∀ L,L0<=L->Jj (cC n_) L SX 3 (SE i T)=SC i U:=by
 have C:SX=SX:=rfl
 conv at C=>rhs;cbv
 simp only[C,Jj,NX,JZ,b4,b5];refine KG (E:=SE i) (R:=SC i) (fun y=>by first|(intro c;cases c)|(rcases y with y|y<;>(intro c;cases c))|(rcases y with y|y|y<;>(intro c;cases c))) ?_ h;clear h;rintro⟨data,k⟩ o_ h;dsimp only[CQ] at h;rcases Ab h with⟨g,h⟩|⟨g,h⟩
 ·try simp only[go_sem,n1,n2,n3,n4] at g
  all_goals
  obtain⟨p,h⟩:=AO h;have j:=GX p;have P:=BX (b0 .i64) data j;try simp only[go_sem] at j
  try simp only[go_sem] at P
  try simp only[go_sem,n1,n2,n3,n4,g] at p
  all_goals
  obtain⟨aa,h⟩:=AO h;have o:=GX aa;have J:=BX (b0 .i64) data o;try simp only[go_sem] at o
  try simp only[go_sem] at J
  try simp only[go_sem,n1,n2,n3,n4,g,p] at aa
  all_goals
  have I:=(by rw[← b7];exact BX (b0 .i64) (data.set k.toNat (data.getD (i64.wrap (k-1)).toNat b3)) (by first|(rw[b6];exact j)|(simp;omega)):((a7 (b0 .i64) data).set k.toNat ((b0 .i64) (data.getD (i64.wrap (k-1)).toNat b3))).getD ((i64.wrap (k-1)).toNat) .any=(b0 .i64) ((data.set k.toNat (data.getD (i64.wrap (k-1)).toNat b3)).getD ((i64.wrap (k-1)).toNat) b3));try simp only[go_sem] at I
  obtain rfl:=AR h;refine⟨0,fun L hL=>?_⟩;simp only[go_sem,C,cC,g,p,j,P,aa,o,J,I]
 ·try simp only[go_sem,n1,n2,n3,n4] at g
  all_goals
  obtain rfl:=AR h;refine⟨0,fun L hL=>?_⟩;simp only[go_sem,C,cC,g]
noncomputable def VJ(data:List Int)(a m b:Int)(c:AF)(c2:List AJ)(g n p:Int):(Int×Int)->St
 | (start,r)=>⟨[.own 31,.int .i64 a,.int .i64 m,.int .i64 b,.fn (.func 280) [] [.ptr 1 [.fn (.func 256) [] [.ptr 2 [BK c] 0 0,.ptr 1 [.sl 2 (a7 AP c2)] 0 0]] 0 0],.any,.any,.any,.any,.any,.any,.any,.any,.int .i64 g,.int .i64 n,.int .i64 start,.int .i64 r,.int .i64 p,.any,.any],[],[(31,⟨1,a7 (b0 .i64) data⟩)],a'⟩
noncomputable def Uv(data:List Int)(a m b:Int)(c:AF)(c2:List AJ)(g n p y:Int):FU:=(.exit 8,⟨[.own 31,.int .i64 a,.int .i64 m,.int .i64 b,.fn (.func 280) [] [.ptr 1 [.fn (.func 256) [] [.ptr 2 [BK c] 0 0,.ptr 1 [.sl 2 (a7 AP c2)] 0 0]] 0 0],.any,.any,.any,.any,.any,.any,.any,.any,.int .i64 g,.int .i64 n,.int .i64 y,.any,.any,.any,.any],[],[(31,⟨1,a7 (b0 .i64) data⟩)],a'⟩)
attribute [local go_sem] CP cC VJ Uv in
theorem GM(o:Nat){data:List Int}{a m b:Int}{c:AF}{c2:List AJ}{j n p:Int}{g:Int×Int}{i:Int}(h:AE (CP data a m b c c2 j n p) g=b2 i):∃ C,∀ L,C<=L->Jj (cC o) L SX 4 (VJ data a m b c c2 j n p g)=Uv data a m b c c2 j n p i:=LF SX trivial
noncomputable def YC(data:List Int)(a m b:Int)(c:AF)(c2:List AJ)(g n p:Int):(Int×Int)->St
 | (start,r)=>⟨[.own 31,.int .i64 a,.int .i64 m,.int .i64 b,.fn (.func 280) [] [.ptr 1 [.fn (.func 256) [] [.ptr 2 [BK c] 0 0,.ptr 1 [.sl 2 (a7 AP c2)] 0 0]] 0 0],.any,.any,.any,.any,.any,.any,.any,.any,.int .i64 g,.int .i64 n,.int .i64 start,.int .i64 r,.int .i64 p,.any,.any],[],[(31,⟨1,a7 (b0 .i64) data⟩)],a'⟩
noncomputable def Xx(data:List Int)(a m b:Int)(c:AF)(c2:List AJ)(g n p y:Int):FU:=(.exit 8,⟨[.own 31,.int .i64 a,.int .i64 m,.int .i64 b,.fn (.func 280) [] [.ptr 1 [.fn (.func 256) [] [.ptr 2 [BK c] 0 0,.ptr 1 [.sl 2 (a7 AP c2)] 0 0]] 0 0],.any,.any,.any,.any,.any,.any,.any,.any,.int .i64 g,.int .i64 n,.int .i64 y,.any,.any,.any,.any],[],[(31,⟨1,a7 (b0 .i64) data⟩)],a'⟩)
attribute [local go_sem] CO cC YC Xx in
theorem GL(o:Nat){data:List Int}{a m b:Int}{c:AF}{c2:List AJ}{j n p:Int}{g:Int×Int}{i:Int}(h:AE (CO data a m b c c2 j n p) g=b2 i):∃ C,∀ L,C<=L->Jj (cC o) L SX 4 (YC data a m b c c2 j n p g)=Xx data a m b c c2 j n p i:=LF SX trivial
attribute [local go_sem] AH cC ND NC OQ OP QP QL SE SC VJ Uv YC Xx in
theorem AAO:∀ (o:Nat) {data:List Int} {a:Int} {m:Int} {b:Int} {i:Int} {g:Int} {j:List AJ} (h:(AH o data a m b (AF.mk i g) j).isSome=a'),(AY o).F [.fresh 1 (a7 (b0 .i64) data),.int .i64 a,.int .i64 m,.int .i64 b,.fn (.func 280) [] [.ptr 1 [.fn (.func 256) [] [.ptr 2 [(.agg ([.int .i64 i,.int .i64 g]))] 0 0,.ptr 1 [.sl 2 (a7 AP j)] 0 0]] 0 0]]=⟨a',.cv undef,[.fresh 1 (a7 (b0 .i64) (gd (AH o data a m b (AF.mk i g) j))),.any,.any,.any,.any]⟩:=by
 intro o
 induction o with
 | zero=>intro data a m b i g j h;cases h
 | succ o p=>
  intro data a m b i g j h;rw[Gk];exact Cj SX (an (@GQ o) (an (@GP o) (an (@GO o) (an (@GN o) (an (@GM o) (@GL o))))))
@[go_sem]theorem G_92{data:List Int}{a m b i g:Int}{j:List AJ}(h:(Ay data a m b (AF.mk i g) j).isSome=a'):oM.F [.fresh 1 (a7 (b0 .i64) data),.int .i64 a,.int .i64 m,.int .i64 b,.fn (.func 280) [] [.ptr 1 [.fn (.func 256) [] [.ptr 2 [(.agg ([.int .i64 i,.int .i64 g]))] 0 0,.ptr 1 [.sl 2 (a7 AP j)] 0 0]] 0 0]]=⟨a',.cv undef,[.fresh 1 (a7 (b0 .i64) (gd (Ay data a m b (AF.mk i g) j))),.any,.any,.any,.any]⟩:=AAO 64 h
noncomputable def Ws:Bl:=Aj a6 Tryz.f291 [0,1,2,6,7,8,9] [] [] [(63,31,1),(15,1,1),(63,31,1)]
noncomputable def cB:List (Nat×Ar):=[(295,AGy),(296,oM)]
instance:SdL a6 cB:=by unfold cB;infer_instance
noncomputable abbrev AGw:Ar:=Xl cB Ws [.io,.bor,.bor]
instance:Sd a6 291 AGw:=SN
noncomputable def VI(n:Int)(c:AF)(c2:List AJ)(g:Int):((List Int)×Int×Int)->St
 | (data,a,b)=>⟨[.own 31,.int .i64 n,.fn (.func 280) [] [.ptr 1 [.fn (.func 256) [] [.ptr 2 [BK c] 0 0,.ptr 1 [.sl 2 (a7 AP c2)] 0 0]] 0 0],.int .i64 g,.int .i64 a,.int .i64 b,.any],[],[(31,⟨1,a7 (b0 .i64) data⟩)],a'⟩
noncomputable def Uu(n:Int)(c:AF)(c2:List AJ)(g:Int)(y:(List Int)×Int):FU:=(.exit 0,⟨[.own 31,.int .i64 n,.fn (.func 280) [] [.ptr 1 [.fn (.func 256) [] [.ptr 2 [BK c] 0 0,.ptr 1 [.sl 2 (a7 AP c2)] 0 0]] 0 0],.int .i64 g,.int .i64 y.2,.any,.any],[],[(31,⟨1,a7 (b0 .i64) y.1⟩)],a'⟩)
attribute [local go_sem] Cc cB VI Uu in
theorem Gi{n:Int}{c:AF}{c2:List AJ}{g:Int}{i:(List Int)×Int×Int}{j:(List Int)×Int}(h:AE (Cc n c c2 g) i=b2 j):∃ o,∀ L,o<=L->Jj cB L Ws 0 (VI n c c2 g i)=Uu n c c2 g j:=LF Ws trivial
noncomputable def YB(n:Int)(c:AF)(c2:List AJ)(g:Int):((List Int)×Int×Int)->St
 | (data,a,b)=>⟨[.own 31,.int .i64 n,.fn (.func 280) [] [.ptr 1 [.fn (.func 256) [] [.ptr 2 [BK c] 0 0,.ptr 1 [.sl 2 (a7 AP c2)] 0 0]] 0 0],.int .i64 g,.int .i64 a,.int .i64 b,.any],[],[(31,⟨1,a7 (b0 .i64) data⟩)],a'⟩
noncomputable def Xw(n:Int)(c:AF)(c2:List AJ)(g:Int)(y:(List Int)×Int):FU:=(.exit 4,⟨[.own 31,.int .i64 n,.fn (.func 280) [] [.ptr 1 [.fn (.func 256) [] [.ptr 2 [BK c] 0 0,.ptr 1 [.sl 2 (a7 AP c2)] 0 0]] 0 0],.int .i64 g,.int .i64 y.2,.any,.any],[],[(31,⟨1,a7 (b0 .i64) y.1⟩)],a'⟩)
attribute [local go_sem] BP cB YB Xw VI Uu in
theorem Df{n:Int}{c:AF}{c2:List AJ}{g:Int}{i:(List Int)×Int×Int}{j:(List Int)×Int}(h:AE (BP n c c2 g) i=b2 j):∃ o,∀ L,o<=L->Jj cB L Ws 2 (YB n c c2 g i)=Xw n c c2 g j:=LF Ws trivial
noncomputable def iq(n:Int)(c:AF)(c2:List AJ):((List Int)×Int)->St
 | (data,g)=>⟨[.own 31,.int .i64 n,.fn (.func 280) [] [.ptr 1 [.fn (.func 256) [] [.ptr 2 [BK c] 0 0,.ptr 1 [.sl 2 (a7 AP c2)] 0 0]] 0 0],.int .i64 g,.any,.any,.any],[],[(31,⟨1,a7 (b0 .i64) data⟩)],a'⟩
noncomputable def hU(n:Int)(c:AF)(c2:List AJ)(y:(List Int)):FU:=(.exit 2,⟨[.own 31,.any,.any,.any,.any,.any,.any],[],[(31,⟨1,a7 (b0 .i64) y⟩)],a'⟩)
attribute [local go_sem] BQ cB iq hU VI Uu YB Xw in
theorem Gg{n:Int}{c:AF}{c2:List AJ}{g:(List Int)×Int}{i:(List Int)}(h:AE (BQ n c c2) g=b2 i):∃ j,∀ L,j<=L->Jj cB L Ws 1 (iq n c c2 g)=hU n c c2 i:=LF Ws @Df
attribute [local go_sem] BF cB VI Uu YB Xw iq hU in
@[go_sem]theorem G_93{data:List Int}{n i g:Int}{j:List AJ}(h:(BF data n (AF.mk i g) j).isSome=a'):AGw.F [.fresh 1 (a7 (b0 .i64) data),.int .i64 n,.fn (.func 280) [] [.ptr 1 [.fn (.func 256) [] [.ptr 2 [(.agg ([.int .i64 i,.int .i64 g]))] 0 0,.ptr 1 [.sl 2 (a7 AP j)] 0 0]] 0 0]]=⟨a',.cv undef,[.fresh 1 (a7 (b0 .i64) (gd (BF data n (AF.mk i g) j))),.any,.any]⟩:=Cj Ws (an @Gi (an @Df @Gg))
noncomputable def ACd:Bl:=Aj a6 Tryz.f279 [0,1] [] [] []
noncomputable abbrev AGv:Ar:=Xl [(291,AGw)] ACd [.io,.bor]
instance:Sd a6 279 AGv:=SN
attribute [local go_sem] BD in
@[go_sem]theorem G_94{x:List Int}{i g:Int}{j:List AJ}(h:(BD x (AF.mk i g) j).isSome=a'):AGv.F [.fresh 1 (a7 (b0 .i64) x),.fn (.func 280) [] [.ptr 1 [.fn (.func 256) [] [.ptr 2 [(.agg ([.int .i64 i,.int .i64 g]))] 0 0,.ptr 1 [.sl 2 (a7 AP j)] 0 0]] 0 0]]=⟨a',.cv undef,[.fresh 1 (a7 (b0 .i64) (gd (BD x (AF.mk i g) j))),.any]⟩:=Cj ACd trivial
noncomputable def ACk:Bl:=Aj a6 Tryz.f255 [0,1,3,4,5] [] [] []
noncomputable abbrev AGu:Ar:=Cw [(277,AHC),(279,AGv)] ACk [.bor,.bor]
instance:Sd a6 255 AGu:=Aq
attribute [local go_sem] Ch in
@[go_sem]theorem G_95{n i g:Int}{j:List AJ}(h:(Ch n (AF.mk i g) j).isSome=a'):AGu.F [.int .i64 n,.fn (.func 256) [] [.ptr 2 [(.agg ([.int .i64 i,.int .i64 g]))] 0 0,.ptr 1 [.sl 2 (a7 AP j)] 0 0]]=⟨a',.fresh 1 (a7 (b0 .i64) (gd (Ch n (AF.mk i g) j))),[.any,.any]⟩:=Cj ACk trivial
noncomputable def ACw:Bl:=Aj a6 Tryz.f227 [0,1,2,3,4] [] [] []
noncomputable abbrev ABS:Ar:=Cw [(255,AGu)] ACw [.bor,.bor]
instance:Sd a6 227 ABS:=Aq
attribute [local go_sem] GZ in
@[go_sem]theorem G_96{i g:Int}{j:List AJ}(h:(GZ (AF.mk i g) j).isSome=a'):ABS.F [.agg ([.int .i64 i,.int .i64 g]),.sl 2 (a7 AP j)]=⟨a',.fresh 1 (a7 (b0 .i64) (gd (GZ (AF.mk i g) j))),[.any,.any]⟩:=Cj ACw trivial
noncomputable def pu:Bl:=Aj a6 Tryz.f276 [0,1,4,5,6,7,8,9,14,15,16,17] [(712,16)] [] [(1817,16,4)]
noncomputable def rj:List (Nat×Ar):=[(227,ABS),(173,uO)]
instance:SdL a6 rj:=by unfold rj;infer_instance
noncomputable abbrev AGt:Ar:=Cw rj pu [.bor,.bor]
instance:Sd a6 276 AGt:=Aq
noncomputable def ip(j:List AJ)(i:List Int)(p:Int):(Int×Int)->St
 | (g,o)=>⟨[.sl 2 (a7 AP j),.any,.any,.own 3200000,.int .i64 g,.any,.any,.any,.own 3200000,.int .i64 p,.int .i64 o,.any],[],[(3200000,⟨1,a7 (b0 .i64) i⟩)],a'⟩
noncomputable def gz(i:List AJ)(g:List Int)(j y:Int):FU:=(.exit 0,⟨[.any,.any,.any,.any,.int .i64 y,.any,.any,.any,.any,.any,.any,.any],[],[],a'⟩)
attribute [local go_sem] Bw rj ip gz in
theorem PG{i:List AJ}{g:List Int}{p:Int}{j:Int×Int}{o:Int}(h:AE (Bw i g p) j=b2 o):∃ C,∀ L,C<=L->Jj rj L pu 0 (ip i g p j)=gz i g p o:=LF pu trivial
attribute [local go_sem] DR rj ip gz in
@[go_sem]theorem G_97{i:List AJ}{g:Int}(h:(DR i g).isSome=a'):AGt.F [.sl 2 (a7 AP i),.int .i64 g]=⟨a',.int .i64 (gd (DR i g)),[.any,.any]⟩:=Cj pu @PG
noncomputable def px:Bl:=Aj a6 Tryz.f253 [0,1,4,5,7,9,10,11,12] [] [] [(233,8,4)]
noncomputable def ri:List (Nat×Ar):=[(276,AGt)]
instance:SdL a6 ri:=by unfold ri;infer_instance
noncomputable abbrev AGs:Ar:=Cw ri px [.bor,.bor]
instance:Sd a6 253 AGs:=Aq
noncomputable def im(g:List AJ)(t9:List Int)(t10:Int):((List Int)×Int)->St
 | (out,i)=>⟨[.sl 2 (a7 AP g),.any,.any,.own 3200000,.any,.sl 1 (a7 (b0 .i64) t9),.int .i64 t10,.int .i64 i,.any],[],[(3200000,⟨1,a7 (b0 .i64) out⟩)],a'⟩
noncomputable def gy(g:List AJ)(t9:List Int)(t10:Int)(y:(List Int)):FU:=(.exit 0,⟨[.any,.any,.any,.own 3200000,.any,.any,.any,.any,.any],[],[(3200000,⟨1,a7 (b0 .i64) y⟩)],a'⟩)
attribute [local go_sem] Dy ri im gy in
theorem Oa{g:List AJ}{t9:List Int}{t10:Int}{i:(List Int)×Int}{j:(List Int)}(h:AE (Dy g t9 t10) i=b2 j):∃ o,∀ L,o<=L->Jj ri L px 0 (im g t9 t10 i)=gy g t9 t10 j:=LF px trivial
attribute [local go_sem] Er ri im gy in
@[go_sem]theorem G_98{i:List AJ}{g:List Int}(h:(Er i g).isSome=a'):AGs.F [.sl 2 (a7 AP i),.sl 1 (a7 (b0 .i64) g)]=⟨a',.fresh 1 (a7 (b0 .i64) (gd (Er i g))),[.any,.any]⟩:=Cj px @Oa
theorem zt:CF a6 222 ON:=xH
instance i_c_hMinI:Sd a6 222 ON:=⟨zt⟩
@[go_sem]def uZ{a:List Int}:=cr (fun y=>@zO a y)
noncomputable def pw:Bl:=Aj a6 Tryz.f254 [0,1,4,5,7,8,9] [] [] [(51,0,4)]
noncomputable def pL:List (Nat×Ar):=[]
instance:SdL a6 pL:=SdL0
noncomputable abbrev yh:Ar:=Cw pL pw [.bor,.bor]
instance:Sd a6 254 yh:=Aq
noncomputable def br(s_:List Int)(v i:Int):Int->St
 | g=>⟨[.sl 1 (a7 (b0 .i64) s_),.int .i64 v,.any,.any,.int .i64 i,.int .i64 g,.any],[],[],a'⟩
noncomputable def aw(s_:List Int)(v g:Int):(Unit⊕Int)->FU
 | .inl y=>(.exit 0,⟨[.any,.any,.any,.any,.any,.any,.any],[],[],a'⟩)
 | .inr y=>(.ret,⟨[.any,.any,.int .i64 y,.any,.any,.any,.any],[],[],a'⟩)
attribute [local go_sem] Cf br aw in
theorem Lt{s_:List Int}{v j g:Int}{i:Unit⊕Int}(h:AE (Cf s_ v j) g=b2 i):∃ o,∀ L,o<=L->Jj pL L pw 0 (br s_ v j g)=aw s_ v j i:=LF pw trivial
attribute [local go_sem] DJ pL br aw in
@[go_sem]theorem AML{s_:List Int}{v:Int}(h:(DJ s_ v).isSome=a'):yh.F [.sl 1 (a7 (b0 .i64) s_),.int .i64 v]=⟨a',.int .i64 (gd (DJ s_ v)),[.any,.any]⟩:=Cj pw @Lt
noncomputable def ACy:Bl:=Aj a6 Tryz.f224 [0,1,4,5] [] [] []
noncomputable abbrev yg:Ar:=Cw [(253,AGs),(222,ON),(254,yh)] ACy [.bor,.bor]
instance:Sd a6 224 yg:=Aq
attribute [local go_sem] KZ in
@[go_sem]theorem AMK{i:List AJ}{g:List Int}(h:(KZ i g).isSome=a'):yg.F [.sl 2 (a7 AP i),.sl 1 (a7 (b0 .i64) g)]=⟨a',.int .i64 (gd (KZ i g)),[.any,.any]⟩:=Cj ACy trivial
noncomputable def ADb:Bl:=Aj a6 Tryz.f165 [0,1,3,4,5,6] [] [] []
noncomputable abbrev yf:Ar:=Cw [(223,AHF),(225,AHE),(224,yg)] ADb [.bor,.bor]
instance:Sd a6 165 yf:=Aq
attribute [local go_sem] Fl in
@[go_sem]theorem AMJ{j:List AJ}{i o g:Int}(h:(Fl j (CB.mk i o g)).isSome=a'):yf.F [.sl 2 (a7 AP j),.agg ([.int .i64 i,.int .i64 o,.int .i64 g])]=⟨a',.tup [.int .i64 ((gd (Fl j (CB.mk i o g))).1),.int .i64 ((gd (Fl j (CB.mk i o g))).2)],[.any,.any]⟩:=Cj ADb trivial
noncomputable def pz:Bl:=Aj a6 Tryz.f220 [0,2,3,5,7,8,9,10] [] [] [(116,4,2)]
noncomputable def pK:List (Nat×Ar):=[]
instance:SdL a6 pK:=SdL0
noncomputable abbrev ye:Ar:=Cw pK pz [.bor]
instance:Sd a6 220 ye:=Aq
noncomputable def bq(i:List AJ)(g:Int):((List Int)×Int)->St
 | (out,t9)=>⟨[.any,.any,.own 3200000,.any,.sl 2 (a7 AP i),.int .i64 g,.int .i64 t9,.any],[],[(3200000,⟨1,a7 (b0 .i64) out⟩)],a'⟩
noncomputable def ar(i:List AJ)(g:Int)(y:(List Int)):FU:=(.exit 0,⟨[.any,.any,.own 3200000,.any,.any,.any,.any,.any],[],[(3200000,⟨1,a7 (b0 .i64) y⟩)],a'⟩)
attribute [local go_sem] IW bq ar in
theorem Uf{o:List AJ}{j:Int}{g:(List Int)×Int}{i:(List Int)}(h:AE (IW o j) g=b2 i):∃ p,∀ L,p<=L->Jj pK L pz 0 (bq o j g)=ar o j i:=LF pz trivial
attribute [local go_sem] LB pK bq ar in
@[go_sem]theorem AMI{g:List AJ}(h:(LB g).isSome=a'):ye.F [.sl 2 (a7 AP g)]=⟨a',.fresh 1 (a7 (b0 .i64) (gd (LB g))),[.any]⟩:=Cj pz @Uf
theorem zu:CF a6 221 QE:=xI
instance i_c_hMaxI:Sd a6 221 QE:=⟨zu⟩
@[go_sem]def ua{a:List Int}:=cr (fun y=>@zP a y)
noncomputable def ADc:Bl:=Aj a6 Tryz.f164 [0,2,3,4] [] [] []
noncomputable abbrev yd:Ar:=Cw [(219,xu),(220,ye),(221,QE),(222,ON)] ADc [.bor]
instance:Sd a6 164 yd:=Aq
attribute [local go_sem] Ev in
@[go_sem]theorem AMH{g:List AJ}(h:(Ev g).isSome=a'):yd.F [.sl 2 (a7 AP g)]=⟨a',.tup [.int .i64 ((gd (Ev g)).1),.int .i64 ((gd (Ev g)).2)],[.any]⟩:=Cj ADc trivial
noncomputable def ACx:Bl:=Aj a6 Tryz.f226 [0,1,2] [] [] []
noncomputable abbrev yc:Ar:=Cw [(182,uN),(154,cU)] ACx [.bor]
instance:Sd a6 226 yc:=Aq
attribute [local go_sem] Fr in
@[go_sem]theorem AMG{i g:Int}(h:(Fr (AF.mk i g)).isSome=a'):yc.F [.agg ([.int .i64 i,.int .i64 g])]=⟨a',.bool (gd (Fr (AF.mk i g))),[.any]⟩:=Cj ACx trivial
noncomputable def ADa:Bl:=Aj a6 Tryz.f166 [0,1,2,4,5] [] [] []
noncomputable abbrev yb:Ar:=Cw [(226,yc),(219,xu),(227,ABS)] ADa [.bor,.bor]
instance:Sd a6 166 yb:=Aq
attribute [local go_sem] Gb in
@[go_sem]theorem AMF{i g:Int}{j:List AJ}(h:(Gb (AF.mk i g) j).isSome=a'):yb.F [.agg ([.int .i64 i,.int .i64 g]),.sl 2 (a7 AP j)]=⟨a',.tup [.fresh 1 (a7 (b0 .i64) ((gd (Gb (AF.mk i g) j)).1)),.int .i64 ((gd (Gb (AF.mk i g) j)).2)],[.any,.any]⟩:=Cj ADa trivial
theorem zw:CF a6 170 Kh:=xJ
instance i_c_hJoin:Sd a6 170 Kh:=⟨zw⟩
@[go_sem]def ub{a:List (List UInt8)}{b:List UInt8}:=cr (fun y=>@bE a b y)
noncomputable def qL:Bl:=Aj a6 Tryz.f167 [0,2,3,5,7,8,9,10] [] [] [(116,4,2)]
noncomputable def dH:List (Nat×Ar):=[(110,WU),(170,Kh)]
instance:SdL a6 dH:=by unfold dH;infer_instance
noncomputable abbrev ya:Ar:=Cw dH qL [.bor]
instance:Sd a6 167 ya:=Aq
noncomputable def bp(j:List Int)(i:Int):((List (List UInt8))×Int)->St
 | (g,t9)=>⟨[.any,.any,.own 3200000,.any,.sl 1 (a7 (b0 .i64) j),.int .i64 i,.int .i64 t9,.any],[],[(3200000,⟨1,a7 b1 g⟩)],a'⟩
noncomputable def aq(i:List Int)(g:Int)(y:(List (List UInt8))):FU:=(.exit 0,⟨[.any,.any,.own 3200000,.any,.any,.any,.any,.any],[],[(3200000,⟨1,a7 b1 y⟩)],a'⟩)
attribute [local go_sem] GY dH bp aq in
theorem Ug{o:List Int}{j:Int}{g:(List (List UInt8))×Int}{i:(List (List UInt8))}(h:AE (GY o j) g=b2 i):∃ p,∀ L,p<=L->Jj dH L qL 0 (bp o j g)=aq o j i:=LF qL trivial
attribute [local go_sem] LD dH bp aq in
@[go_sem]theorem AME{g:List Int}(h:(LD g).isSome=a'):ya.F [.sl 1 (a7 (b0 .i64) g)]=⟨a',.str (gd (LD g)),[.any]⟩:=Cj qL (an @Ug @bE)
noncomputable def ADV:Bl:=Aj a6 Tryz.f176 [0,2] [] [] []
noncomputable abbrev yZ:Ar:=Cw [] ADV [.bor]
instance:Sd a6 176 yZ:=Aq
attribute [local go_sem] Hp in
@[go_sem]theorem AMD{g:List (List UInt8)}(h:(Hp g).isSome=a'):yZ.F [.sl 1 (a7 b1 g)]=⟨a',.int .i64 (gd (Hp g)),[.any]⟩:=Cj ADV trivial
noncomputable def AEH:Bl:=Aj a6 Tryz.f113 [0,2] [] [] []
noncomputable abbrev rP:Ar:=Cw [(176,yZ),(110,WU)] AEH [.mov]
instance:Sd a6 113 rP:=Aq
attribute [local go_sem] Ho in
@[go_sem]theorem AMC{g:List (List UInt8)}(h:(Ho g).isSome=a'):rP.F [.fresh 1 (a7 b1 g)]=⟨a',.fresh 1 (a7 b1 (gd (Ho g))),[.any]⟩:=Cj AEH trivial
noncomputable def qV:Bl:=Aj a6 Tryz.f105 [0,1,3,4,5,6,7,8,9,10,11,12,13,14,15,17,38,100,101,102,103] [(1010,32),(2103,16),(2107,16),(2109,32)] [] [(933888,16384,24)]
noncomputable def dG:List (Nat×Ar):=[(163,AHH),(164,yd),(110,WU),(107,uM),(165,yf),(166,yb),(167,ya),(155,xw),(113,rP)]
instance:SdL a6 dG:=by unfold dG;infer_instance
noncomputable abbrev yY:Ar:=Cw dG qV [.bor,.bor]
instance:Sd a6 105 yY:=Aq
noncomputable def bn(o:List AJ)(j:Int):((List (List UInt8))×Int)->St
 | (g,i)=>⟨[.any,.any,.any,.any,.any,.any,.any,.any,.any,.any,.any,.any,.any,.any,.own 3200000,.any,.any,.own 3200032,.int .i64 j,.int .i64 i,.any],[],[(3200000,⟨1,a7 b1 g⟩),(3200032,⟨2,a7 AP o⟩)],a'⟩
noncomputable def am(i:List AJ)(g:Int)(y:(List (List UInt8))):FU:=(.exit 1,⟨[.any,.any,.any,.any,.any,.any,.any,.any,.any,.any,.any,.any,.any,.any,.own 3200000,.any,.any,.any,.any,.any,.any],[],[(3200000,⟨1,a7 b1 y⟩)],a'⟩)
attribute [local go_sem] DY dG bn am in
theorem PH{i:List AJ}{g:Int}{j:(List (List UInt8))×Int}{o:(List (List UInt8))}(h:AE (DY i g) j=b2 o):∃ p,∀ L,p<=L->Jj dG L qV 0 (bn i g j)=am i g o:=LF qV trivial
attribute [local go_sem] CD dG bn am in
@[go_sem]theorem AMB{o:List Star}{g:List AA}{I:List UInt8}{C:List (List UInt8)}{i:List Int}{j p:Bool}(h:(CD (Bp.mk o g I) (EM.mk C i j p)).isSome=a'):yY.F [.ptr 3 [(.agg ([.sl 5 (a7 Ao o),.sl 5 (a7 AC g),.str I]))] 0 0,.agg ([.sl 1 (a7 b1 C),.sl 1 (a7 (b0 .i64) i),.bool j,.bool p])]=⟨a',.tup [.fresh 1 (a7 b1 ((gd (CD (Bp.mk o g I) (EM.mk C i j p))).1)),.int .i64 ((gd (CD (Bp.mk o g I) (EM.mk C i j p))).2)],[.any,.any]⟩:=Cj qV (an @PH @AMN)
noncomputable def AEM:Bl:=Aj a6 Tryz.f108 [0,1,2,3] [(402,16),(408,32),(409,16)] [] []
noncomputable abbrev yX:Ar:=Cw [(155,xw),(110,WU),(170,Kh)] AEM [.bor]
instance:Sd a6 108 yX:=Aq
attribute [local go_sem] Eu in
@[go_sem]theorem AMA{j:Int}{o g:List UInt8}{p:Int}{i:Bool}(h:(Eu (AA.mk j o g p i)).isSome=a'):yX.F [.agg ([.int .i64 j,.str o,.str g,.int .i64 p,.bool i])]=⟨a',.str (gd (Eu (AA.mk j o g p i))),[.any]⟩:=Cj AEM @bE
noncomputable def AEJ:Bl:=Aj a6 Tryz.f111 [0,2] [] [] []
noncomputable abbrev yW:Ar:=Cw [] AEJ [.bor]
instance:Sd a6 111 yW:=Aq
attribute [local go_sem] Ga in
@[go_sem]theorem ALz{g:List (List Int)}(h:(Ga g).isSome=a'):yW.F [.sl 1 (a7 (mh 1 (b0 .i64)) g)]=⟨a',.int .i64 (gd (Ga g)),[.any]⟩:=Cj AEJ trivial
noncomputable def AAr:Bl:=Aj a6 Tryz.f59 [0,1,3,4,5,6,7,8,9,10,11,12,14,18,19,28,92,93,94,95] [(1200,128),(1201,128),(1202,128),(1203,128),(1204,128),(1205,128),(1206,128),(1207,128),(1209,128),(1210,128),(1211,128),(1214,64)] [(12,[6],[[0,1,2,3,4,5,6,7,8,9,10,12,11,13,14],[0,1,2,3,4,5,6,7,8,9,10,12,13,11,14],[0,1,2,3,4,5,6,7,12,8,9,10,11,13,14],[0,1,2,3,4,5,6,7,12,8,9,10,13,11,14]])] [(461825,3073,25)]
noncomputable def dF:List (Nat×Ar):=[(104,AHN),(105,yY),(106,JU),(108,yX),(107,uM),(109,AHh),(111,yW),(110,WU),(72,ABV),(112,xv),(113,rP)]
instance:SdL a6 dF:=by unfold dF;infer_instance
noncomputable abbrev rO:Ar:=Xl dF AAr [.io,.bor]
instance:Sd a6 59 rO:=SN
noncomputable def bm(d:Bp)(i:Int)(p:List AW)(o:Int):((List (List UInt8))×Int)->St
 | (g,j)=>⟨[.ref 31 0 0,.any,.any,.any,.any,.any,.any,.any,.any,.any,.int .i64 i,.own 3200032,.any,.any,.any,.any,.own 3200064,.int .i64 o,.int .i64 j,.any],[],[(31,⟨3,[EL d]⟩),(3200032,⟨1,a7 b1 g⟩),(3200064,⟨3,a7 Bz p⟩)],a'⟩
noncomputable def ak(d:Bp)(g:Int)(j:List AW)(i:Int)(y:(List (List UInt8))):FU:=(.exit 1,⟨[.ref 31 0 0,.any,.any,.any,.any,.any,.any,.any,.any,.any,.int .i64 g,.own 3200032,.any,.any,.any,.any,.any,.any,.any,.any],[],[(31,⟨3,[EL d]⟩),(3200032,⟨1,a7 b1 y⟩)],a'⟩)
attribute [local go_sem] DZ dF bm ak in
theorem PI{d:Bp}{g:Int}{p:List AW}{o:Int}{i:(List (List UInt8))×Int}{j:(List (List UInt8))}(h:AE (DZ d g p o) i=b2 j):∃ C,∀ L,C<=L->Jj dF L AAr 0 (bm d g p o i)=ak d g p o j:=LF AAr trivial
attribute [local go_sem] Ai dF bm ak in
@[go_sem]theorem AFP{o:List Star}{g:List AA}{I:List UInt8}{C:List (List UInt8)}{i:List Int}{j p:Bool}(h:(Ai (Bp.mk o g I) (EM.mk C i j p)).isSome=a'):rO.F [.mem 3 [(.agg ([.sl 5 (a7 Ao o),.sl 5 (a7 AC g),.str I]))] 0,.agg ([.sl 1 (a7 b1 C),.sl 1 (a7 (b0 .i64) i),.bool j,.bool p])]=⟨a',.tup [.fresh 1 (a7 b1 ((gd (Ai (Bp.mk o g I) (EM.mk C i j p))).1)),.int .i64 ((gd (Ai (Bp.mk o g I) (EM.mk C i j p))).2.1)],[.mem 3 [EL ((gd (Ai (Bp.mk o g I) (EM.mk C i j p))).2.2)] 0,.any]⟩:=Cj AAr @PI
theorem AIo{d:Bp}{c:EM}{g:(List (List UInt8))×Int×Bp}(h:Ai d c=b2 g):rO.F [.mem 3 [EL d] 0,Ns c]=⟨a',.tup [.fresh 1 (a7 b1 g.1),.int .i64 g.2.1],[.mem 3 [EL g.2.2] 0,.any]⟩:=by
 have q:=AFP (MZ h);simp only[h,BA] at q;exact q
noncomputable def AGZ:Bl:=Aj a6 Tryz.f26 [0,1,2,4,5,6,7,8,9,10,11,12] [(100,128),(101,128),(102,160),(103,128),(104,128),(105,160),(106,128),(107,128),(108,160),(600,32),(1002,16),(1004,32)] [(1,[7],[]),(6,[],[[0,2,1,3,4],[1,0,2,3,4],[1,2,0,3,4],[2,0,1,3,4]]),(10,[],[[0,1,2,3,5,4,6,7],[0,1,2,5,3,4,6,7]])] []
noncomputable abbrev lq:Ar:=mkZ [(56,c_1),(57,c_2),(58,Ey),(59,rO),(60,c_3)] AGZ [.bor,.bor]
instance s_116:Sd a6 26 lq:=mkZS
theorem AIr{d:Bp}{line:List UInt8}{U:Bp×(List (List UInt8))×Bool}(h:GR d line=b2 U):lq.F [EL d,.str line]=⟨a',.tup [EL U.1,.sl 1 (a7 b1 U.2.1),.bool U.2.2],[.any,.any]⟩:=by
 have o:AGZ=AGZ:=rfl
 conv at o=>rhs;cbv
 refine ACV ?_;dsimp only[GR] at h;obtain⟨a2,z1,h⟩:=AN h;have fz1:=Fs_1 z1;try simp only[go_sem] at fz1
 obtain⟨a1,z2,h⟩:=AN h;have C:=Fs_2 z2;try simp only[go_sem] at C
 obtain⟨a0,z3,h⟩:=AN h;have p:=KT z3;try simp only[go_sem] at p
 rcases Ab h with⟨g,h⟩|⟨g,h⟩
 ·try simp only[go_sem,n1,n2,n3,n4] at g
  all_goals
  obtain rfl:=AR h;refine⟨0,fun L hL=>?_⟩;simp only[go_sem,o,fz1,C,p,g]
 ·try simp only[go_sem,n1,n2,n3,n4] at g
  all_goals
  rcases Ab h with⟨i,h⟩|⟨i,h⟩
  ·try simp only[go_sem,n1,n2,n3,n4,g] at i
   all_goals
   obtain⟨ay,z6,h⟩:=AN h;have P:=AIo z6;try simp only[go_sem,g,i] at P
   rcases Ab h with⟨J,h⟩|⟨J,h⟩
   ·try simp only[go_sem,n1,n2,n3,n4,g,i] at J
    all_goals
    obtain⟨ax,z8,h⟩:=AN h;have T:=AMQ z8;try simp only[go_sem,g,i,J] at T
    obtain⟨z9,h⟩:=AO h;try simp only[go_sem,n1,n2,n3,n4,g,i,J] at z9
    all_goals
    obtain rfl:=AR h;refine⟨0,fun L hL=>?_⟩;simp only[go_sem,o,fz1,C,p,g,i,P,J,T,z9]
   ·try simp only[go_sem,n1,n2,n3,n4,g,i] at J
    all_goals
    obtain rfl:=AR h;refine⟨0,fun L hL=>?_⟩;simp only[go_sem,o,fz1,C,p,g,i,P,J]
  ·try simp only[go_sem,n1,n2,n3,n4,g] at i
   all_goals
   rcases Ab h with⟨j,h⟩|⟨j,h⟩
   ·try simp only[go_sem,n1,n2,n3,n4,g,i] at j
    all_goals
    obtain⟨ad,ab,h⟩:=AN h;have I:=AMQ ab;try simp only[go_sem,g,i,j] at I
    obtain⟨R,h⟩:=AO h;try simp only[go_sem,n1,n2,n3,n4,g,i,j] at R
    all_goals
    obtain rfl:=AR h;refine⟨0,fun L hL=>?_⟩;simp only[go_sem,o,fz1,C,p,g,i,j,I,R]
   ·try simp only[go_sem,n1,n2,n3,n4,g,i] at j
    all_goals
    obtain rfl:=AR h;refine⟨0,fun L hL=>?_⟩;simp only[go_sem,o,fz1,C,p,g,i,j]
@[go_sem]theorem AFO{i:List Star}{g:List AA}{j line:List UInt8}(h:(GR (Bp.mk i g j) line).isSome=a'):lq.F [.agg ([.sl 5 (a7 Ao i),.sl 5 (a7 AC g),.str j]),.str line]=⟨a',.tup [EL ((gd (GR (Bp.mk i g j) line)).1),.sl 1 (a7 b1 ((gd (GR (Bp.mk i g j) line)).2.1)),.bool ((gd (GR (Bp.mk i g j) line)).2.2)],[.any,.any]⟩:=by obtain⟨y,e⟩:=isX h;have q:=AIr e;simpa only[e,BA,EL] using q
theorem ALF:lq.modes=[.bor,.bor]:=rfl
theorem AIn{d:Bp}{line:List UInt8}{g:Bp×(List (List UInt8))×Bool}(h:GR d line=b2 g):lq.F [EL d,.str line]=⟨a',.tup [EL g.1,.sl 1 (a7 b1 g.2.1),.bool g.2.2],[.any,.any]⟩:=by
 have q:=AFO (MZ h);simp only[h,BA] at q;exact q
