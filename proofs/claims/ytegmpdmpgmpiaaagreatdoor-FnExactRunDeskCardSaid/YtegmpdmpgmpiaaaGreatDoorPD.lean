/- Lemmas and walks, several texts in one. No condition. -/
import Derived.Test.YtegmpdmpgmpiaaaGreatDoorP9
import Derived.Test.YtegmpdmpgmpiaaaGreatDoorPC
import Derived.Test.YtegmpdmpgmpiaaaGreatDoorP3
import Derived.Test.YtegmpdmpgmpiaaaGreatDoorRows
import Derived.WalkKit
import Derived.Lib.Hide
import Derived.Deep.RegionLaw
import Derived.Deep.AppendLies
open Bool renaming true->bR,false->bX,noConfusion->fa
open Go renaming World->c',undef->db,cell_of_row->e5,ownsRow_setCell_other->ea,heap_setCell_same->ej,heap_alloc_new->ev
open Go.Lib renaming hid->d'
open Go.Proofs.Tryz renaming prog->bI,f177->e4,func114->fi
open Go.Proofs.YtegmpdmpgmpiaaaGreatDoor.AV renaming int->cL,str->e3
open Go.RowKit.Below renaming heap_alloc->dz
open Go.Value renaming pointer->cI,string->dT,ownBlock->dX,slice->ef,int->ek,agg->fs
open List renaming map->bN,getD_cons_zero->e8,getD_cons_succ->e9,length_singleton->eu,flatMap_cons->ew,length_cons->eL,length_nil->ff,range->fm
open Nat renaming zero_add->e6,le_refl->e7,zero_mul->ec,lt_or_ge->et
open Option renaming some->bS,none->cS
set_option linter.defProp false
set_option linter.unusedSimpArgs false
set_option linter.unusedVariables false
set_option maxRecDepth 100000
set_option maxHeartbeats 64000000
open Go.IntKind (i64 u64)
namespace Go.Proofs.YtegmpdmpgmpiaaaGreatDoor
open Go Go.RowKit
noncomputable def vR:List AV->Rs
 | [.str l]=>match GA l with
  | some y=>⟨bR,.str y,[.any]⟩
  | none=>Rs.bad
 | _=>Rs.bad
noncomputable def Ih:Ar:=⟨[.bor],bR,vR⟩
theorem Mn{text g:List UInt8}(h:GA text=bS g):Ih.F [.str text]=⟨bR,.str g,[.any]⟩:=by
 show (match GA text with
  | some y=>(⟨bR,.str y,[.any]⟩:Rs)
  | none=>Rs.bad)=_
 rw[h]
theorem bB:Ih.modes=[.bor]:=rfl
theorem Xb:Ih.flat=true:=rfl
attribute [go_sem] bB Xb
theorem sN{args:List AV}(h:(vR args).ok=bR):∃ l y,GA l=bS y∧args=[.str l]:=by
 unfold vR at h;split at h
 ·rename_i l;split at h
  ·rename_i y g;exact⟨l,y,g,rfl⟩
  ·cases h
 ·cases h
theorem Zf{S:Nat->Prop}{w:c'}{u:Value}{d:Bp}(h:VR S w u (EL d)):∃ i g,u = .agg #[i,g,.string ⟨d.Log.toArray⟩]∧VR S w i (.sl 5 (bN Ao d.Stars))∧VR S w g (.sl 5 (bN AC d.Estimates)):=by
 have h:VR S w u (.agg [.sl 5 (bN Ao d.Stars),.sl 5 (bN AC d.Estimates),.str d.Log]):=h;cases h with
 | @agg cs C j I h=>
  have p:=h 0 (by simp);have o:=h 1 (by simp);have h2:=h 2 (by simp);obtain⟨l⟩:=cs
  match l,j with
  | [a,b,c],_=>
   have h2:VR S w c (.str d.Log):=h2;cases h2
   exact⟨a,b,rfl,p,o⟩
theorem ABL{S:Nat->Prop}{w:c'}{d:Bp}{j i:Value}(p:VR S w j (.sl 5 (bN Ao d.Stars)))(o:VR S w i (.sl 5 (bN AC d.Estimates))):VR S w (.agg #[j,i,.string ⟨d.Log.toArray⟩]) (EL d):=by
 refine .agg rfl (fun k g=>?_) (fun k g=>?_)
 ·match k,g with
  | 0,_=>rfl
  | 1,_=>rfl
  | 2,_=>rfl
 ·match k,g with
  | 0,_=>exact p
  | 1,_=>exact o
  | 2,_=>exact .str
theorem jU{S:Nat->Prop}{w:c'}{u:Value}{x y:AV}{b:Bool}(h:VR S w u (.tup [x,y,.bool b])):∃ a c,u = .tuple #[a,c,.bool b]∧VR S w a x∧VR S w c y:=by
 cases h with
 | @tup cs o g h=>
  have j:=h 0 (by simp);have i:=h 1 (by simp);have h2:=h 2 (by simp);obtain⟨l⟩:=cs
  match l,g with
  | [a,c,e],_=>
   have h2:VR S w e (.bool b):=h2;cases h2
   exact⟨a,c,rfl,j,i⟩
theorem us{S:Nat->Prop}{w:c'}{u:Value}{x y:List UInt8}{b:Bool}(h:VR S w u (.tup [.str x,.str y,.bool b])):u = .tuple #[.string ⟨x.toArray⟩,.string ⟨y.toArray⟩,.bool b]:=by
 obtain⟨a,c,rfl,i,g⟩:=jU h;cases i;cases g;rfl
theorem mm{text r:List UInt8}(h:GA text=bS r){w:c'}(T:GT (fun _=>False) w):Calls bI 6 #[.string ⟨text.toArray⟩] w (rund.RunEnd r w):=by
 unfold GA at h;obtain⟨d0,U,h⟩:=AN h;refine rund.run_all text d0 r w h T ?_ ?_ ?_
 ·refine (MW s_0.s Tryz.func23 rfl (by decide +kernel) (args:=[]) (vargs:=#[]) rfl (by rw[M_0];rfl) rfl (fun j o=>absurd o (by simp)) T (Fs_0 U)).mono fun e w' ⟨u,i,h2,p⟩=>?_
  obtain⟨P,I,rfl,ha,hb⟩:=Zf (d:=d0) p;exact⟨P,I,i,CE h2,ha,hb⟩
 ·intro t y W hB hy;refine (MW vP Tryz.func25 rfl (by decide +kernel) (args:=[.str t,.str [10]]) (vargs:=#[.string ⟨t.toArray⟩,.string ⟨#[10]⟩]) rfl (by rw[zJ];rfl) rfl (fun j o=>?_) (T.mono (GU hB) fun _ _ c=>c) (VG hy)).mono fun e w' ⟨u,i,h2,p⟩=>?_
  ·have g:j<2:=by simpa using o
   match j,g with
   | 0,_=>exact .str
   | 1,_=>exact .str
  ·rw[us p] at i;exact⟨i,h2⟩
 ·intro O d line z P I W hO R ha hb hz;refine (DG s_116.s Tryz.func26 rfl (by decide +kernel) (args:=[EL d,.str line]) (vargs:=#[.agg #[P,I,.string ⟨d.Log.toArray⟩],.string ⟨line.toArray⟩]) rfl (by rw[ALF];rfl) rfl (fun j o=>?_) hO R (AIn hz)).mono fun e w' ⟨u,i,h2,p⟩=>?_
  ·have g:j<2:=by simpa using o
   match j,g with
   | 0,_=>exact ABL ha hb
   | 1,_=>exact .str
  ·obtain⟨a,c,rfl,q0,q1⟩:=jU p;obtain⟨J,C,rfl,qa,qb⟩:=Zf (d:=z.1) q0;exact⟨J,C,c,i,h2,qa,qb,q1⟩
theorem YV:CF bI 6 Ih:=by
 refine⟨fun _=>rfl,fun F T w args vargs I o g p=>?_⟩;obtain⟨l,y,j,rfl⟩:=sN p;refine⟨fun _=>by rw[Mn j];rfl,?_⟩;have C:=GD g (i:=0) (by simp);rw[NG o];generalize vargs.getD 0 db=v at C;cases C
 have J:=Go.Proofs.enters_of (P:=bI) Tryz.func6 (by kernel_rfl) rfl;unfold DD;rw[J,Mn j];refine (mm j (g.tab.mono (AG.refl _ _) fun _ _ c=>c.elim)).mono ?_;rintro U w' ⟨rfl,R⟩;exact⟨_,T,[],id,rfl,Kb (GU R) .str (fun i hi=>absurd hi.2 Bool.false_ne_true) (oY rfl)⟩
set_option maxHeartbeats 64000000
instance i_c_impl_RunDesk:Sd bI 6 Ih:=⟨YV⟩
@[go_sem]def Wb{text:List UInt8}:=cr (fun y=>@Mn text y)
noncomputable def ADM:Bl:=Aj bI Tryz.f189 [0,2] [] [] []
noncomputable abbrev yV:Ar:=Cw [] ADM [.bor]
instance:Sd bI 189 yV:=Aq
attribute [local go_sem] GG in
@[go_sem]theorem ALy{c:UInt8}(h:(GG c).isSome=bR):yV.F [.int .u8 (c.toNat:Int)]=⟨bR,.bool (gd (GG c)),[.any]⟩:=Cj ADM trivial
noncomputable def ADw:Bl:=Aj bI Tryz.f126 [0,2] [] [] []
noncomputable abbrev lm:Ar:=Cw [] ADw [.bor]
instance:Sd bI 126 lm:=Aq
attribute [local go_sem] Dd in
@[go_sem]theorem ALx{c:UInt8}(h:(Dd c).isSome=bR):lm.F [.int .u8 (c.toNat:Int)]=⟨bR,.bool (gd (Dd c)),[.any]⟩:=Cj ADw trivial
noncomputable def qR:Bl:=Aj bI Tryz.f131 [0,2,3] [] [] [(5,0,2)]
noncomputable def dE:List (Nat×Ar):=[(189,yV),(126,lm)]
instance:SdL bI dE:=by unfold dE;infer_instance
noncomputable abbrev XG:Ar:=Cw dE qR [.bor]
instance:Sd bI 131 XG:=Aq
noncomputable def bk(s_:List UInt8):Int->St
 | i=>⟨[.str s_,.any,.int .i64 i],[],[],bR⟩
noncomputable def ai(s_:List UInt8):(Unit⊕Bool)->FU
 | .inl y=>(.exit 0,⟨[.any,.any,.any],[],[],bR⟩)
 | .inr y=>(.ret,⟨[.any,.bool y,.any],[],[],bR⟩)
attribute [local go_sem] IT dE bk ai in
theorem Ts{s_:List UInt8}{g:Int}{i:Unit⊕Bool}(h:AE (IT s_) g=bS i):∃ j,∀ L,j<=L->Jj dE L qR 0 (bk s_ g)=ai s_ i:=LF qR trivial
attribute [local go_sem] CI dE bk ai in
@[go_sem]theorem ALv{s_:List UInt8}(h:(CI s_).isSome=bR):XG.F [.str s_]=⟨bR,.bool (gd (CI s_)),[.any]⟩:=Cj qR @Ts
noncomputable def AJu:Bl:=Aj bI Tryz.f75 [0,1,2,6] [] [] []
noncomputable abbrev OO:Ar:=Cw [] AJu [.bor,.bor,.bor]
instance:Sd bI 75 OO:=Aq
attribute [local go_sem] Bm in
@[go_sem]theorem AFN{n low g:Int}(h:(Bm n low g).isSome=bR):OO.F [.int .i64 n,.int .i64 low,.int .i64 g]=⟨bR,.bool (gd (Bm n low g)),[.any,.any,.any]⟩:=Cj AJu trivial
theorem ij{n low g:Int}{i:Bool}(h:Bm n low g=bS i):OO.F [.int .i64 n,.int .i64 low,.int .i64 g]=⟨bR,.bool i,[.any,.any,.any]⟩:=by
 have q:=AFN (MZ h);simp only[h,BA] at q;exact q
noncomputable def ADU:Bl:=Aj bI Tryz.f178 [0,2] [] [] []
noncomputable abbrev yT:Ar:=Cw [(75,OO)] ADU [.bor]
instance:Sd bI 178 yT:=Aq
attribute [local go_sem] EU in
@[go_sem]theorem ALu{n:Int}(h:(EU n).isSome=bR):yT.F [.int .i64 n]=⟨bR,.bool (gd (EU n)),[.any]⟩:=Cj ADU trivial
noncomputable def ADT:Bl:=Aj bI Tryz.f179 [0,2] [] [] []
noncomputable abbrev yS:Ar:=Cw [(75,OO)] ADT [.bor]
instance:Sd bI 179 yS:=Aq
attribute [local go_sem] Hg in
@[go_sem]theorem ALt{n:Int}(h:(Hg n).isSome=bR):yS.F [.int .i64 n]=⟨bR,.bool (gd (Hg n)),[.any]⟩:=Cj ADT trivial
noncomputable def ADv:Bl:=Aj bI Tryz.f127 [0,2] [] [] []
noncomputable abbrev Zr:Ar:=Cw [(75,OO)] ADv [.bor]
instance:Sd bI 127 Zr:=Aq
attribute [local go_sem] Bo in
@[go_sem]theorem AFM{m:Int}(h:(Bo m).isSome=bR):Zr.F [.int .i64 m]=⟨bR,.bool (gd (Bo m)),[.any]⟩:=Cj ADv trivial
theorem ig{m:Int}{g:Bool}(h:Bo m=bS g):Zr.F [.int .i64 m]=⟨bR,.bool g,[.any]⟩:=by
 have q:=AFM (MZ h);simp only[h,BA] at q;exact q
noncomputable def AEG:Bl:=Aj bI Tryz.f115 [0,2] [(104,16)] [] []
noncomputable abbrev rN:Ar:=Cw [(131,XG),(178,yT),(179,yS),(127,Zr)] AEG [.bor]
instance:Sd bI 115 rN:=Aq
attribute [local go_sem] Jn in
@[go_sem]theorem ALs{o:List UInt8}{i p g j:Int}(h:(Jn (Star.mk o i p g j)).isSome=bR):rN.F [.ptr 5 [(.agg ([.str o,.int .i64 i,.int .i64 p,.int .i64 g,.int .i64 j]))] 0 0]=⟨bR,.bool (gd (Jn (Star.mk o i p g j))),[.any]⟩:=Cj AEG trivial
noncomputable def AAq:Bl:=Aj bI Tryz.f64 [0,2,3] [(403,16)] [] [(5,1,2)]
noncomputable def dD:List (Nat×Ar):=[(115,rN)]
instance:SdL bI dD:=by unfold dD;infer_instance
noncomputable abbrev yR:Ar:=Cw dD AAq [.bor]
instance:Sd bI 64 yR:=Aq
noncomputable def bj(g:List Star):Int->St
 | i=>⟨[.sl 5 (bN Ao g),.any,.int .i64 i],[],[],bR⟩
noncomputable def ah(g:List Star):(Unit⊕Bool)->FU
 | .inl y=>(.exit 0,⟨[.sl 5 (bN Ao g),.any,.any],[],[],bR⟩)
 | .inr y=>(.ret,⟨[.any,.bool y,.any],[],[],bR⟩)
attribute [local go_sem] IC dD bj ah in
theorem Vk{g:List Star}{i:Int}{j:Unit⊕Bool}(h:AE (IC g) i=bS j):∃ o,∀ L,o<=L->Jj dD L AAq 0 (bj g i)=ah g j:=LF AAq trivial
attribute [local go_sem] Ls dD bj ah in
@[go_sem]theorem ALr{g:List Star}(h:(Ls g).isSome=bR):yR.F [.sl 5 (bN Ao g)]=⟨bR,.bool (gd (Ls g)),[.any]⟩:=Cj AAq @Vk
noncomputable def AAo:Bl:=Aj bI Tryz.f66 [0,1,4,5] [] [] [(11,0,4)]
noncomputable def pJ:List (Nat×Ar):=[]
instance:SdL bI pJ:=SdL0
noncomputable abbrev ll:Ar:=Cw pJ AAo [.bor,.bor]
instance s_127:Sd bI 66 ll:=Aq
noncomputable def bi(j:List Star)(g:List UInt8):Int->St
 | i=>⟨[.sl 5 (bN Ao j),.str g,.any,.int .i64 i],[],[],bR⟩
noncomputable def ag(i:List Star)(g:List UInt8):(Unit⊕Int)->FU
 | .inl y=>(.exit 0,⟨[.any,.any,.any,.any],[],[],bR⟩)
 | .inr y=>(.ret,⟨[.any,.any,.int .i64 y,.any],[],[],bR⟩)
attribute [local go_sem] Gu bi ag in
theorem Sw{i:List Star}{g:List UInt8}{j:Int}{o:Unit⊕Int}(h:AE (Gu i g) j=bS o):∃ p,∀ L,p<=L->Jj pJ L AAo 0 (bi i g j)=ag i g o:=LF AAo trivial
attribute [local go_sem] Fu pJ bi ag in
@[go_sem]theorem AFL{i:List Star}{g:List UInt8}(h:(Fu i g).isSome=bR):ll.F [.sl 5 (bN Ao i),.str g]=⟨bR,.int .i64 (gd (Fu i g)),[.any,.any]⟩:=Cj AAo @Sw
theorem ALE:ll.modes=[.bor,.bor]:=rfl
theorem AIm{i:List Star}{g:List UInt8}{j:Int}(h:Fu i g=bS j):ll.F [.sl 5 (bN Ao i),.str g]=⟨bR,.int .i64 j,[.any,.any]⟩:=by
 have q:=AFL (MZ h);simp only[h,BA] at q;exact q
noncomputable def AAm:Bl:=Aj bI Tryz.f78 [0,1,3,4,5,6,7] [] [] [(37,37,24)]
noncomputable def dC:List (Nat×Ar):=[(64,yR),(115,rN),(66,ll)]
instance:SdL bI dC:=by unfold dC;infer_instance
noncomputable abbrev rM:Ar:=Cw dC AAm [.bor,.bor]
instance s_128:Sd bI 78 rM:=Aq
noncomputable def bh(g:List Star)(x:Star):Int->St
 | k=>⟨[.sl 5 (bN Ao g),.any,.ref 3200000 0 0,.any,.any,.int .i64 k,.any],[],[(3200000,⟨5,[Ao x]⟩)],bR⟩
noncomputable def af(g:List Star)(x:Star)(y:Int):FU:=(.exit 0,⟨[.sl 5 (bN Ao g),.any,.ref 3200000 0 0,.any,.any,.int .i64 y,.any],[],[(3200000,⟨5,[Ao x]⟩)],bR⟩)
attribute [local go_sem] Gv dC bh af in
theorem Sy{g:List Star}{x:Star}{i j:Int}(h:AE (Gv g x) i=bS j):∃ o,∀ L,o<=L->Jj dC L AAm 0 (bh g x i)=af g x j:=LF AAm trivial
attribute [local go_sem] Fw dC bh af in
@[go_sem]theorem AFK{C:List Star}{o:List UInt8}{i p g j:Int}(h:(Fw C (Star.mk o i p g j)).isSome=bR):rM.F [.sl 5 (bN Ao C),.agg ([.str o,.int .i64 i,.int .i64 p,.int .i64 g,.int .i64 j])]=⟨bR,.tup [.fresh 5 (bN Ao ((gd (Fw C (Star.mk o i p g j))).1)),.int .i64 ((gd (Fw C (Star.mk o i p g j))).2)],[.any,.any]⟩:=Cj AAm @Sy
theorem ALD:rM.modes=[.bor,.bor]:=rfl
theorem AIl{g:List Star}{x:Star}{i:(List Star)×Int}(h:Fw g x=bS i):rM.F [.sl 5 (bN Ao g),Ao x]=⟨bR,.tup [.fresh 5 (bN Ao i.1),.int .i64 i.2],[.any,.any]⟩:=by
 have q:=AFK (MZ h);simp only[h,BA] at q;exact q
noncomputable def ADS:Bl:=Aj bI Tryz.f180 [0,2] [] [] []
noncomputable abbrev fF:Ar:=Cw [(75,OO)] ADS [.bor]
instance:Sd bI 180 fF:=Aq
attribute [local go_sem] Ft in
@[go_sem]theorem AFJ{n:Int}(h:(Ft n).isSome=bR):fF.F [.int .i64 n]=⟨bR,.bool (gd (Ft n)),[.any]⟩:=Cj ADS trivial
theorem AIk{n:Int}{g:Bool}(h:Ft n=bS g):fF.F [.int .i64 n]=⟨bR,.bool g,[.any]⟩:=by
 have q:=AFJ (MZ h);simp only[h,BA] at q;exact q
noncomputable def AEF:Bl:=Aj bI Tryz.f116 [0,2] [] [] []
noncomputable abbrev rL:Ar:=Cw [(180,fF),(131,XG),(127,Zr)] AEF [.bor]
instance:Sd bI 116 rL:=Aq
attribute [local go_sem] Jm in
@[go_sem]theorem ALq{j:Int}{o g:List UInt8}{p:Int}{i:Bool}(h:(Jm (AA.mk j o g p i)).isSome=bR):rL.F [.ptr 5 [(.agg ([.int .i64 j,.str o,.str g,.int .i64 p,.bool i]))] 0 0]=⟨bR,.bool (gd (Jm (AA.mk j o g p i))),[.any]⟩:=Cj AEF trivial
noncomputable def AEE:Bl:=Aj bI Tryz.f117 [0,1,4] [] [] []
noncomputable abbrev lk:Ar:=Cw [] AEE [.bor,.bor]
instance:Sd bI 117 lk:=Aq
attribute [local go_sem] DF in
@[go_sem]theorem ALp{I:Int}{J i:List UInt8}{R:Int}{o:Bool}{p:Int}{C g:List UInt8}{P:Int}{j:Bool}(h:(DF (AA.mk I J i R o) (AA.mk p C g P j)).isSome=bR):lk.F [.ptr 5 [(.agg ([.int .i64 I,.str J,.str i,.int .i64 R,.bool o]))] 0 0,.ptr 5 [(.agg ([.int .i64 p,.str C,.str g,.int .i64 P,.bool j]))] 0 0]=⟨bR,.bool (gd (DF (AA.mk I J i R o) (AA.mk p C g P j))),[.any,.any]⟩:=Cj AEE trivial
noncomputable def AAp:Bl:=Aj bI Tryz.f65 [0,2,3] [(403,16)] [] [(5,1,2)]
noncomputable def dB:List (Nat×Ar):=[(116,rL),(117,lk)]
instance:SdL bI dB:=by unfold dB;infer_instance
noncomputable abbrev fE:Ar:=Cw dB AAp [.bor]
instance:Sd bI 65 fE:=Aq
noncomputable def bg(g:List AA):Int->St
 | i=>⟨[.sl 5 (bN AC g),.any,.int .i64 i],[],[],bR⟩
noncomputable def aZ(g:List AA):(Unit⊕Bool)->FU
 | .inl y=>(.exit 0,⟨[.sl 5 (bN AC g),.any,.any],[],[],bR⟩)
 | .inr y=>(.ret,⟨[.any,.bool y,.any],[],[],bR⟩)
attribute [local go_sem] IB dB bg aZ in
theorem Vj{g:List AA}{i:Int}{j:Unit⊕Bool}(h:AE (IB g) i=bS j):∃ o,∀ L,o<=L->Jj dB L AAp 0 (bg g i)=aZ g j:=LF AAp trivial
attribute [local go_sem] Is dB bg aZ in
@[go_sem]theorem ALo{g:List AA}(h:(Is g).isSome=bR):fE.F [.sl 5 (bN AC g)]=⟨bR,.bool (gd (Is g)),[.any]⟩:=Cj AAp @Vj
noncomputable def qT:Bl:=Aj bI Tryz.f129 [0,1,4,5] [] [] [(11,0,4)]
noncomputable def dA:List (Nat×Ar):=[(117,lk)]
instance:SdL bI dA:=by unfold dA;infer_instance
noncomputable abbrev yQ:Ar:=Cw dA qT [.bor,.bor]
instance:Sd bI 129 yQ:=Aq
noncomputable def bf(g:List AA)(j:AA):Int->St
 | i=>⟨[.sl 5 (bN AC g),.ptr 5 [AC j] 0 0,.any,.int .i64 i],[],[],bR⟩
noncomputable def aY(g:List AA)(i:AA):(Unit⊕Int)->FU
 | .inl y=>(.exit 0,⟨[.any,.any,.any,.any],[],[],bR⟩)
 | .inr y=>(.ret,⟨[.any,.any,.int .i64 y,.any],[],[],bR⟩)
attribute [local go_sem] Gt dA bf aY in
theorem Sv{g:List AA}{o:AA}{i:Int}{j:Unit⊕Int}(h:AE (Gt g o) i=bS j):∃ p,∀ L,p<=L->Jj dA L qT 0 (bf g o i)=aY g o j:=LF qT trivial
attribute [local go_sem] KC dA bf aY in
@[go_sem]theorem ALn{C:List AA}{j:Int}{o g:List UInt8}{p:Int}{i:Bool}(h:(KC C (AA.mk j o g p i)).isSome=bR):yQ.F [.sl 5 (bN AC C),.ptr 5 [(.agg ([.int .i64 j,.str o,.str g,.int .i64 p,.bool i]))] 0 0]=⟨bR,.int .i64 (gd (KC C (AA.mk j o g p i))),[.any,.any]⟩:=Cj qT @Sv
noncomputable def qS:Bl:=Aj bI Tryz.f130 [0,1,3,4,5,6] [] [] [(21,21,8)]
noncomputable def cz:List (Nat×Ar):=[(117,lk)]
instance:SdL bI cz:=by unfold cz;infer_instance
noncomputable abbrev yP:Ar:=Cw cz qS [.bor,.bor]
instance:Sd bI 130 yP:=Aq
noncomputable def bd(g:List AA)(i:AA):Int->St
 | k=>⟨[.sl 5 (bN AC g),.any,.ref 3200000 0 0,.any,.int .i64 k,.any],[],[(3200000,⟨5,[AC i]⟩)],bR⟩
noncomputable def aX(g:List AA)(i:AA)(y:Int):FU:=(.exit 0,⟨[.sl 5 (bN AC g),.any,.ref 3200000 0 0,.any,.int .i64 y,.any],[],[(3200000,⟨5,[AC i]⟩)],bR⟩)
attribute [local go_sem] IS cz bd aX in
theorem Tn{g:List AA}{o:AA}{i j:Int}(h:AE (IS g o) i=bS j):∃ p,∀ L,p<=L->Jj cz L qS 0 (bd g o i)=aX g o j:=LF qS trivial
attribute [local go_sem] MQ cz bd aX in
@[go_sem]theorem ALm{C:List AA}{j:Int}{o g:List UInt8}{p:Int}{i:Bool}(h:(MQ C (AA.mk j o g p i)).isSome=bR):yP.F [.sl 5 (bN AC C),.agg ([.int .i64 j,.str o,.str g,.int .i64 p,.bool i])]=⟨bR,.fresh 5 (bN AC (gd (MQ C (AA.mk j o g p i)))),[.any,.any]⟩:=Cj qS @Tn
noncomputable def AJs:Bl:=Aj bI Tryz.f80 [0,1,3,4,5] [] [] []
noncomputable abbrev rK:Ar:=Cw [(65,fE),(116,rL),(129,yQ),(130,yP)] AJs [.bor,.bor]
instance s_135:Sd bI 80 rK:=Aq
attribute [local go_sem] Dh in
@[go_sem]theorem AFI{C:List AA}{j:Int}{o g:List UInt8}{p:Int}{i:Bool}(h:(Dh C (AA.mk j o g p i)).isSome=bR):rK.F [.sl 5 (bN AC C),.agg ([.int .i64 j,.str o,.str g,.int .i64 p,.bool i])]=⟨bR,.tup [.fresh 5 (bN AC ((gd (Dh C (AA.mk j o g p i))).1)),.int .i64 ((gd (Dh C (AA.mk j o g p i))).2)],[.any,.any]⟩:=Cj AJs trivial
theorem ALC:rK.modes=[.bor,.bor]:=rfl
theorem AIj{g:List AA}{j:AA}{i:(List AA)×Int}(h:Dh g j=bS i):rK.F [.sl 5 (bN AC g),AC j]=⟨bR,.tup [.fresh 5 (bN AC i.1),.int .i64 i.2],[.any,.any]⟩:=by
 have q:=AFI (MZ h);simp only[h,BA] at q;exact q
noncomputable def ACs:Bl:=Aj bI Tryz.f234 [0,1,4,5] [] [] []
noncomputable abbrev rJ:Ar:=Cw [] ACs [.bor,.bor]
instance:Sd bI 234 rJ:=Aq
attribute [local go_sem] IE in
@[go_sem]theorem ALl{g i:Int}(h:(IE g i).isSome=bR):rJ.F [.int .i64 g,.int .i64 i]=⟨bR,.int .i64 (gd (IE g i)),[.any,.any]⟩:=Cj ACs trivial
noncomputable def ADK:Bl:=Aj bI Tryz.f191 [0,1,4] [] [] []
noncomputable abbrev yO:Ar:=Cw [(234,rJ)] ADK [.bor,.bor]
instance:Sd bI 191 yO:=Aq
attribute [local go_sem] JO in
@[go_sem]theorem ALk{g i:Int}(h:(JO g i).isSome=bR):yO.F [.int .i64 g,.int .i64 i]=⟨bR,.int .i64 (gd (JO g i)),[.any,.any]⟩:=Cj ADK trivial
noncomputable def eF:Bl:=Aj bI Tryz.f138 [0,1,4,5,6,7,8,9] [(1308,16),(1309,32),(1310,32)] [] [(27,8,4),(251,251,4)]
noncomputable def Wk:List (Nat×Ar):=[(191,yO)]
instance:SdL bI Wk:=by unfold Wk;infer_instance
noncomputable abbrev yN:Ar:=Cw Wk eF [.bor,.bor]
instance:Sd bI 138 yN:=Aq
noncomputable def VV(j:List AA)(g:List UInt8)(out:List AJ)(i:Int):(Int×Int×Int)->St
 | (o,n,k)=>⟨[.sl 5 (bN AC j),.str g,.any,.own 3200000,.int .i64 i,.int .i64 o,.int .i64 n,.int .i64 k],[],[(3200000,⟨2,bN AP out⟩)],bR⟩
noncomputable def VE(j:List AA)(g:List UInt8)(out:List AJ)(i:Int)(y:Int×Int×Int):FU:=(.exit 2,⟨[.sl 5 (bN AC j),.str g,.any,.own 3200000,.int .i64 i,.int .i64 y.1,.int .i64 y.2.1,.int .i64 y.2.2],[],[(3200000,⟨2,bN AP out⟩)],bR⟩)
attribute [local go_sem] GF Wk VV VE in
theorem On{j:List AA}{g:List UInt8}{out:List AJ}{i:Int}{o p:Int×Int×Int}(h:AE (GF j g out i) o=bS p):∃ C,∀ L,C<=L->Jj Wk L eF 1 (VV j g out i o)=VE j g out i p:=LF eF trivial
noncomputable def bc(j:List AA)(g:List UInt8):((List AJ)×Int)->St
 | (out,i)=>⟨[.sl 5 (bN AC j),.str g,.any,.own 3200000,.int .i64 i,.any,.any,.any],[],[(3200000,⟨2,bN AP out⟩)],bR⟩
noncomputable def aW(i:List AA)(g:List UInt8)(y:(List AJ)):FU:=(.exit 0,⟨[.any,.any,.any,.own 3200000,.any,.any,.any,.any],[],[(3200000,⟨2,bN AP y⟩)],bR⟩)
attribute [local go_sem] IA Wk bc aW VV VE in
theorem Vi{i:List AA}{g:List UInt8}{j:(List AJ)×Int}{o:(List AJ)}(h:AE (IA i g) j=bS o):∃ p,∀ L,p<=L->Jj Wk L eF 0 (bc i g j)=aW i g o:=LF eF @On
attribute [local go_sem] NQ Wk VV VE bc aW in
@[go_sem]theorem ALj{i:List AA}{g:List UInt8}(h:(NQ i g).isSome=bR):yN.F [.sl 5 (bN AC i),.str g]=⟨bR,.fresh 2 (bN AP (gd (NQ i g))),[.any,.any]⟩:=Cj eF (an @On @Vi)
noncomputable def AJo:Bl:=Aj bI Tryz.f90 [0,1,4,5] [] [] []
noncomputable abbrev rI:Ar:=Cw [(65,fE),(131,XG),(138,yN)] AJo [.bor,.bor]
instance s_139:Sd bI 90 rI:=Aq
attribute [local go_sem] Fv in
@[go_sem]theorem AFH{i:List AA}{g:List UInt8}(h:(Fv i g).isSome=bR):rI.F [.sl 5 (bN AC i),.str g]=⟨bR,.tup [.fresh 2 (bN AP ((gd (Fv i g)).1)),.int .i64 ((gd (Fv i g)).2)],[.any,.any]⟩:=Cj AJo trivial
theorem ALB:rI.modes=[.bor,.bor]:=rfl
theorem AIi{i:List AA}{g:List UInt8}{j:(List AJ)×Int}(h:Fv i g=bS j):rI.F [.sl 5 (bN AC i),.str g]=⟨bR,.tup [.fresh 2 (bN AP j.1),.int .i64 j.2],[.any,.any]⟩:=by
 have q:=AFH (MZ h);simp only[h,BA] at q;exact q
noncomputable def kg:Bl:=Aj bI Tryz.f139 [0,2,3] [(405,16)] [] [(5,1,2)]
noncomputable def SU:List (Nat×Ar):=[(180,fF),(127,Zr)]
instance:SdL bI SU:=by unfold SU;infer_instance
noncomputable abbrev lj:Ar:=Cw SU kg [.bor]
instance:Sd bI 139 lj:=Aq
noncomputable def VU(g:List AJ):Int->St
 | i=>⟨[.sl 2 (bN AP g),.any,.int .i64 i],[],[],bR⟩
noncomputable def VD(g:List AJ):(Unit⊕Bool)->FU
 | .inl y=>(.exit 0,⟨[.sl 2 (bN AP g),.any,.any],[],[],bR⟩)
 | .inr y=>(.ret,⟨[.any,.bool y,.any],[],[],bR⟩)
attribute [local go_sem] VU VD in
theorem Vh{C:List AJ}{ay:Int}{a0:Unit⊕Bool}(h:AE (Lz C) ay=bS a0):∃ L0,∀ L,L0<=L->Jj SU L kg 0 (VU C ay)=VD C a0:=by
 have ab:kg=kg:=rfl
 conv at ab=>rhs;cbv
 simp only[ab,Jj,NX,JZ,e8,e9];refine KG (E:=VU C) (R:=VD C) (fun y=>by first|(intro c;cases c)|(rcases y with y|y<;>(intro c;cases c))|(rcases y with y|y|y<;>(intro c;cases c))) ?_ h;clear h;intro i o_ h;dsimp only[Lz] at h;rcases Ab h with⟨I,h⟩|⟨I,h⟩
 ·try simp only[go_sem,n1,n2,n3,n4] at I
  all_goals
  obtain⟨P,h⟩:=AO h;have ae:=GX P;have ao:=BX AP C ae;try simp only[go_sem] at ae
  try simp only[go_sem] at ao
  try simp only[go_sem,n1,n2,n3,n4,I] at P
  all_goals
  obtain⟨a9,z3,h⟩:=AN h;have av:=AIk z3;try simp only[go_sem,I,P] at av
  obtain⟨z4,h⟩:=AO h;rcases EX z4 with⟨o,z4⟩|o
  ·try simp only[go_sem,n1,n2,n3,n4,I,P] at o
   all_goals
   obtain⟨a8,p⟩:=zX z4;have ax:=ig p;try simp only[go_sem,n1,n2,n3,n4,I,P,o] at p
   all_goals
   try simp only[go_sem,I,P,o] at ax
   obtain⟨z5,h⟩:=AO h;rcases EX z5 with⟨aj,z5⟩|aj
   ·try simp only[go_sem,n1,n2,n3,n4,I,P,o,p] at aj
    all_goals
    have a2:=GX z5;have a3:=BX AP C a2;try simp only[go_sem] at a2
    try simp only[go_sem] at a3
    try simp only[go_sem,n1,n2,n3,n4,I,P,o,p,aj] at z5
    all_goals
    rcases Ab h with⟨z6,h⟩|⟨z6,h⟩
    all_goals
    try simp only[go_sem,n1,n2,n3,n4,I,P,o,p,aj,z5] at z6
    all_goals
    obtain rfl:=AR h;refine⟨0,fun L hL=>?_⟩;simp only[go_sem,ab,SU,I,P,ae,ao,av,o,p,ax,aj,z5,a2,a3,z6]
   ·rcases AEd aj with au|⟨au,ad⟩
    ·have ac:=Nu au;rcases AAK ac with J|⟨J,T⟩
     ·try simp only[go_sem,n1,n2,n3,n4,I,P,o,p] at J
      all_goals
      (simp_all)
     ·have g:=Nu J;have j:=SM T;try simp only[go_sem,n1,n2,n3,n4,I,P,o,p] at g
      all_goals
      try simp only[go_sem,n1,n2,n3,n4,I,P,o,p,g] at j
      all_goals
      rcases Ab h with⟨z6,h⟩|⟨z6,h⟩
      ·try simp only[go_sem,n1,n2,n3,n4,I,P,o,p,g,j] at z6
       all_goals
       obtain rfl:=AR h;refine⟨0,fun L hL=>?_⟩;simp only[go_sem,ab,SU,I,P,ae,ao,av,o,p,ax,g,j,z6]
      ·try simp only[go_sem,n1,n2,n3,n4,I,P,o,p,g,j] at z6
       all_goals
       (simp_all)
    ·have ac:=SM au;obtain⟨J,T⟩:=AFx ac;have g:=Nu J;have j:=Nu T;try simp only[go_sem,n1,n2,n3,n4,I,P,o,p] at g
     all_goals
     try simp only[go_sem,n1,n2,n3,n4,I,P,o,p,g] at j
     all_goals
     try simp only[go_sem,n1,n2,n3,n4,I,P,o,p,g,j] at ad
     all_goals
     rcases Ab h with⟨z6,h⟩|⟨z6,h⟩
     ·try simp only[go_sem,n1,n2,n3,n4,I,P,o,p,g,j,ad] at z6
      all_goals
      (simp_all)
     ·try simp only[go_sem,n1,n2,n3,n4,I,P,o,p,g,j,ad] at z6
      all_goals
      obtain rfl:=AR h;refine⟨0,fun L hL=>?_⟩;simp only[go_sem,ab,SU,I,P,ae,ao,av,o,p,ax,g,j,ad,z6]
  ·have a4:=Nu o;have U:=SM a4;try simp only[go_sem,n1,n2,n3,n4,I,P] at U
   all_goals
   obtain⟨z5,h⟩:=AO h;rcases Ab h with⟨z6,h⟩|⟨z6,h⟩
   ·try simp only[go_sem,n1,n2,n3,n4,I,P,U] at z6
    all_goals
    obtain rfl:=AR h;refine⟨0,fun L hL=>?_⟩;simp only[go_sem,ab,SU,I,P,ae,ao,av,U,z6]
   ·try simp only[go_sem,n1,n2,n3,n4,I,P,U] at z6
    all_goals
    (simp_all)
 ·try simp only[go_sem,n1,n2,n3,n4] at I
  all_goals
  obtain rfl:=AR h;refine⟨0,fun L hL=>?_⟩;simp only[go_sem,ab,SU,I]
attribute [local go_sem] Ir SU VU VD in
@[go_sem]theorem ALi{g:List AJ}(h:(Ir g).isSome=bR):lj.F [.sl 2 (bN AP g)]=⟨bR,.bool (gd (Ir g)),[.any]⟩:=Cj kg @Vh
noncomputable def ADo:Bl:=Aj bI Tryz.f140 [0,1,4] [] [] []
noncomputable abbrev yM:Ar:=Cw [] ADo [.bor,.bor]
instance:Sd bI 140 yM:=Aq
attribute [local go_sem] Kv in
@[go_sem]theorem ALh{a b:Int}(h:(Kv a b).isSome=bR):yM.F [.int .i64 a,.int .i64 b]=⟨bR,.int .i64 (gd (Kv a b)),[.any,.any]⟩:=Cj ADo trivial
noncomputable def ADn:Bl:=Aj bI Tryz.f141 [0,1,4] [] [] []
noncomputable abbrev yL:Ar:=Cw [] ADn [.bor,.bor]
instance:Sd bI 141 yL:=Aq
attribute [local go_sem] Kw in
@[go_sem]theorem ALg{a b:Int}(h:(Kw a b).isSome=bR):yL.F [.int .i64 a,.int .i64 b]=⟨bR,.int .i64 (gd (Kw a b)),[.any,.any]⟩:=Cj ADn trivial
noncomputable def AAg:Bl:=Aj bI Tryz.f92 [0,2,3,4,5,6] [] [] [(57,24,6)]
noncomputable def cy:List (Nat×Ar):=[(139,lj),(140,yM),(141,yL)]
instance:SdL bI cy:=by unfold cy;infer_instance
noncomputable abbrev rH:Ar:=Cw cy AAg [.bor]
instance s_143:Sd bI 92 rH:=Aq
noncomputable def ba(g:List AJ):(Int×Int×Int)->St
 | (low,high,i)=>⟨[.sl 2 (bN AP g),.any,.any,.int .i64 low,.int .i64 high,.int .i64 i],[],[],bR⟩
noncomputable def aV(g:List AJ)(y:Int×Int):FU:=(.exit 0,⟨[.any,.any,.any,.int .i64 y.1,.int .i64 y.2,.any],[],[],bR⟩)
attribute [local go_sem] Ed cy ba aV in
theorem Pd{g:List AJ}{i:Int×Int×Int}{j:Int×Int}(h:AE (Ed g) i=bS j):∃ o,∀ L,o<=L->Jj cy L AAg 0 (ba g i)=aV g j:=LF AAg trivial
attribute [local go_sem] Cr cy ba aV in
@[go_sem]theorem AFG{g:List AJ}(h:(Cr g).isSome=bR):rH.F [.sl 2 (bN AP g)]=⟨bR,.tup [.int .i64 ((gd (Cr g)).1),.int .i64 ((gd (Cr g)).2)],[.any]⟩:=Cj AAg @Pd
theorem ALA:rH.modes=[.bor]:=rfl
theorem AIh{g:List AJ}{i:Int×Int}(h:Cr g=bS i):rH.F [.sl 2 (bN AP g)]=⟨bR,.tup [.int .i64 i.1,.int .i64 i.2],[.any]⟩:=by
 have q:=AFG (MZ h);simp only[h,BA] at q;exact q
noncomputable def ADt:Bl:=Aj bI Tryz.f132 [0,2] [] [] []
noncomputable abbrev rG:Ar:=Cw [] ADt [.bor]
instance:Sd bI 132 rG:=Aq
attribute [local go_sem] FC in
@[go_sem]theorem ALf{n:Int}(h:(FC n).isSome=bR):rG.F [.int .i64 n]=⟨bR,.int .i64 (gd (FC n)),[.any]⟩:=Cj ADt trivial
noncomputable def ACg:Bl:=Aj bI Tryz.f265 [0,1,2,4] [] [] []
noncomputable abbrev yK:Ar:=Cw [(234,rJ)] ACg [.bor,.bor]
instance:Sd bI 265 yK:=Aq
attribute [local go_sem] KW in
@[go_sem]theorem ALe{i g j:Int}(h:(KW (AF.mk i g) j).isSome=bR):yK.F [.agg ([.int .i64 i,.int .i64 g]),.int .i64 j]=⟨bR,.int .i64 (gd (KW (AF.mk i g) j)),[.any,.any]⟩:=Cj ACg trivial
noncomputable def ACp:Bl:=Aj bI Tryz.f237 [0,1,2,4] [(106,16)] [] []
noncomputable abbrev yJ:Ar:=Cw [(265,yK)] ACp [.bor,.bor]
instance:Sd bI 237 yJ:=Aq
attribute [local go_sem] EN in
@[go_sem]theorem ALd{i g j:Int}(h:(EN (AF.mk i g) j).isSome=bR):yJ.F [.agg ([.int .i64 i,.int .i64 g]),.int .i64 j]=⟨bR,.int .i64 (gd (EN (AF.mk i g) j)),[.any,.any]⟩:=Cj ACp trivial
noncomputable def ACo:Bl:=Aj bI Tryz.f238 [0,2] [] [] []
noncomputable abbrev rF:Ar:=Cw [] ACo [.bor]
instance:Sd bI 238 rF:=Aq
attribute [local go_sem] Ku in
@[go_sem]theorem AFF{g:List Int}(h:(Ku g).isSome=bR):rF.F [.sl 1 (bN (cL .i64) g)]=⟨bR,.fresh 1 (bN (cL .i64) (gd (Ku g))),[.any]⟩:=Cj ACo trivial
theorem AIg{g:List Int}{i:(List Int)}(h:Ku g=bS i):rF.F [.sl 1 (bN (cL .i64) g)]=⟨bR,.fresh 1 (bN (cL .i64) i),[.any]⟩:=by
 have q:=AFF (MZ h);simp only[h,BA] at q;exact q
noncomputable def ZJ:Bl:=Aj bI Tryz.f195 [0,1,2,4,5,6,7,8] [] [] [(54,16,8),(118,118,8)]
noncomputable def ST:List (Nat×Ar):=[(237,yJ),(238,rF)]
instance:SdL bI ST:=by unfold ST;infer_instance
noncomputable abbrev rE:Ar:=Cw ST ZJ [.bor,.bor]
instance:Sd bI 195 rE:=Aq
noncomputable def VQ(g:List AJ)(j:AF)(out:List Int)(i:Int):Int->St
 | k=>⟨[.any,.sl 2 (bN AP g),.ref 3200000 0 0,.any,.own 3200032,.int .i64 i,.int .i64 k,.any],[],[(3200000,⟨2,[BK j]⟩),(3200032,⟨1,bN (cL .i64) out⟩)],bR⟩
noncomputable def VB(g:List AJ)(j:AF)(out:List Int)(i y:Int):FU:=(.exit 2,⟨[.any,.sl 2 (bN AP g),.ref 3200000 0 0,.any,.own 3200032,.int .i64 i,.int .i64 y,.any],[],[(3200000,⟨2,[BK j]⟩),(3200032,⟨1,bN (cL .i64) out⟩)],bR⟩)
attribute [local go_sem] Fe ST VQ VB in
theorem NP{g:List AJ}{p:AF}{out:List Int}{i j o:Int}(h:AE (Fe g p out i) j=bS o):∃ C,∀ L,C<=L->Jj ST L ZJ 1 (VQ g p out i j)=VB g p out i o:=LF ZJ trivial
noncomputable def VT(g:List AJ)(j:AF):((List Int)×Int)->St
 | (out,i)=>⟨[.any,.sl 2 (bN AP g),.ref 3200000 0 0,.any,.own 3200032,.int .i64 i,.any,.any],[],[(3200000,⟨2,[BK j]⟩),(3200032,⟨1,bN (cL .i64) out⟩)],bR⟩
noncomputable def VC(g:List AJ)(i:AF)(y:(List Int)):FU:=(.exit 0,⟨[.any,.any,.any,.any,.own 3200000,.any,.any,.any],[],[(3200000,⟨1,bN (cL .i64) y⟩)],bR⟩)
attribute [local go_sem] VT VC VQ VB in
theorem Ss{g:List AJ}{e_:AF}{J:(List Int)×Int}{P:(List Int)}(h:AE (Ff g e_) J=bS P):∃ L0,∀ L,L0<=L->Jj ST L ZJ 0 (VT g e_ J)=VC g e_ P:=by
 have p:ZJ=ZJ:=rfl
 conv at p=>rhs;cbv
 simp only[p,Jj,NX,JZ,e8,e9];refine KG (E:=VT g e_) (R:=VC g e_) (fun y=>by first|(intro c;cases c)|(rcases y with y|y<;>(intro c;cases c))|(rcases y with y|y|y<;>(intro c;cases c))) ?_ h;clear h;rintro⟨out,i⟩ o_ h;dsimp only[Ff] at h;rcases Ab h with⟨o,h⟩|⟨o,h⟩
 ·try simp only[go_sem,n1,n2,n3,n4] at o
  all_goals
  obtain⟨ao,z8,h⟩:=AN h;obtain⟨ad,I⟩:=NP z8;obtain⟨U,h⟩:=AO h;try simp only[go_sem,n1,n2,n3,n4,o] at U
  all_goals
  obtain⟨ae,ac,h⟩:=AN h;have T:=AIg ac;try simp only[go_sem,o,U] at T
  obtain⟨j,h⟩:=AO h;try simp only[go_sem,n1,n2,n3,n4,o,U] at j
  all_goals
  obtain⟨C,h⟩:=AO h;try simp only[go_sem,n1,n2,n3,n4,o,U,j] at C
  all_goals
  obtain⟨aa,h⟩:=AO h;try simp only[go_sem,n1,n2,n3,n4,o,U,j,C] at aa
  all_goals
  obtain rfl:=AR h;refine⟨ad,fun L hL=>?_⟩;have I:=I L (by omega);try simp only[go_sem,p,ST,o,U,j,C,aa] at I
  simp only[go_sem,p,ST,o,U,T,j,C,aa,I]
 ·try simp only[go_sem,n1,n2,n3,n4] at o
  all_goals
  obtain rfl:=AR h;refine⟨0,fun L hL=>?_⟩;simp only[go_sem,p,ST,o]
attribute [local go_sem] Hf ST VQ VB VT VC in
@[go_sem]theorem ALc{i g:Int}{j:List AJ}(h:(Hf (AF.mk i g) j).isSome=bR):rE.F [.agg ([.int .i64 i,.int .i64 g]),.sl 2 (bN AP j)]=⟨bR,.fresh 1 (bN (cL .i64) (gd (Hf (AF.mk i g) j))),[.any,.any]⟩:=Cj ZJ (an @NP @Ss)
noncomputable def qG:Bl:=Aj bI Tryz.f193 [0,1,4,5,6,7,8] [(715,16)] [] [(57,16,4)]
noncomputable def cx:List (Nat×Ar):=[(195,rE),(132,rG)]
instance:SdL bI cx:=by unfold cx;infer_instance
noncomputable abbrev yI:Ar:=Cw cx qG [.bor,.bor]
instance:Sd bI 193 yI:=Aq
noncomputable def bZ(j:List AJ)(g:List Int):(Int×Int)->St
 | (o,i)=>⟨[.sl 2 (bN AP j),.any,.any,.own 3200000,.int .i64 o,.int .i64 i,.any],[],[(3200000,⟨1,bN (cL .i64) g⟩)],bR⟩
noncomputable def aU(i:List AJ)(g:List Int)(y:Int):FU:=(.exit 0,⟨[.any,.any,.any,.any,.int .i64 y,.any,.any],[],[],bR⟩)
attribute [local go_sem] ET cx bZ aU in
theorem Qo{i:List AJ}{g:List Int}{j:Int×Int}{o:Int}(h:AE (ET i g) j=bS o):∃ p,∀ L,p<=L->Jj cx L qG 0 (bZ i g j)=aU i g o:=LF qG trivial
attribute [local go_sem] FM cx bZ aU in
@[go_sem]theorem ALb{i:List AJ}{g:Int}(h:(FM i g).isSome=bR):yI.F [.sl 2 (bN AP i),.int .i64 g]=⟨bR,.int .i64 (gd (FM i g)),[.any,.any]⟩:=Cj qG @Qo
noncomputable def qO:Bl:=Aj bI Tryz.f144 [0,1,3,4,5,6] [] [] [(53,16,8)]
noncomputable def cw:List (Nat×Ar):=[(193,yI)]
instance:SdL bI cw:=by unfold cw;infer_instance
noncomputable abbrev yH:Ar:=Cw cw qO [.bor,.bor]
instance:Sd bI 144 yH:=Aq
noncomputable def bY(g:List AJ)(x:CB):((List Int)×Int)->St
 | (out,p)=>⟨[.sl 2 (bN AP g),.any,.ref 3200000 0 0,.any,.own 3200032,.int .i64 p],[],[(3200000,⟨3,[PU x]⟩),(3200032,⟨1,bN (cL .i64) out⟩)],bR⟩
noncomputable def aT(g:List AJ)(x:CB)(y:(List Int)):FU:=(.exit 0,⟨[.any,.any,.any,.any,.own 3200000,.any],[],[(3200000,⟨1,bN (cL .i64) y⟩)],bR⟩)
attribute [local go_sem] IQ cw bY aT in
theorem Tm{g:List AJ}{x:CB}{i:(List Int)×Int}{j:(List Int)}(h:AE (IQ g x) i=bS j):∃ o,∀ L,o<=L->Jj cw L qO 0 (bY g x i)=aT g x j:=LF qO trivial
attribute [local go_sem] Kt cw bY aT in
@[go_sem]theorem ALZ{j:List AJ}{i o g:Int}(h:(Kt j (CB.mk i o g)).isSome=bR):yH.F [.sl 2 (bN AP j),.agg ([.int .i64 i,.int .i64 o,.int .i64 g])]=⟨bR,.fresh 1 (bN (cL .i64) (gd (Kt j (CB.mk i o g)))),[.any,.any]⟩:=Cj qO @Tm
noncomputable def qP:Bl:=Aj bI Tryz.f143 [0,1,2,6,7,8] [] [] [(55,16,8)]
noncomputable def pI:List (Nat×Ar):=[]
instance:SdL bI pI:=SdL0
noncomputable abbrev yG:Ar:=Cw pI qP [.bor,.bor,.bor]
instance:Sd bI 143 yG:=Aq
noncomputable def bW(o:List Int)(g j:Int):(Int×Int)->St
 | (i,k)=>⟨[.sl 1 (bN (cL .i64) o),.int .i64 g,.int .i64 j,.any,.int .i64 i,.int .i64 k],[],[],bR⟩
noncomputable def aS(j:List Int)(g i y:Int):FU:=(.exit 0,⟨[.any,.any,.any,.any,.int .i64 y,.any],[],[],bR⟩)
attribute [local go_sem] Fd bW aS in
theorem Sr{p:List Int}{g o:Int}{i:Int×Int}{j:Int}(h:AE (Fd p g o) i=bS j):∃ C,∀ L,C<=L->Jj pI L qP 0 (bW p g o i)=aS p g o j:=LF qP trivial
attribute [local go_sem] KB pI bW aS in
@[go_sem]theorem ALY{j:List Int}{g i:Int}(h:(KB j g i).isSome=bR):yG.F [.sl 1 (bN (cL .i64) j),.int .i64 g,.int .i64 i]=⟨bR,.int .i64 (gd (KB j g i)),[.any,.any,.any]⟩:=Cj qP @Sr
noncomputable def ACq:Bl:=Aj bI Tryz.f236 [0,2] [] [] []
noncomputable abbrev rD:Ar:=Cw [(75,OO)] ACq [.bor]
instance:Sd bI 236 rD:=Aq
attribute [local go_sem] DV in
@[go_sem]theorem ALX{n:Int}(h:(DV n).isSome=bR):rD.F [.int .i64 n]=⟨bR,.bool (gd (DV n)),[.any]⟩:=Cj ACq trivial
noncomputable def ACh:Bl:=Aj bI Tryz.f264 [0,1,2] [] [] []
noncomputable abbrev yF:Ar:=Cw [] ACh [.bor]
instance:Sd bI 264 yF:=Aq
attribute [local go_sem] JN in
@[go_sem]theorem ALW{i j g:Int}(h:(JN (CB.mk i j g)).isSome=bR):yF.F [.agg ([.int .i64 i,.int .i64 j,.int .i64 g])]=⟨bR,.int .i64 (gd (JN (CB.mk i j g))),[.any]⟩:=Cj ACh trivial
noncomputable def ACr:Bl:=Aj bI Tryz.f235 [0,1,2] [] [] []
noncomputable abbrev yE:Ar:=Cw [(236,rD),(75,OO),(264,yF)] ACr [.bor]
instance:Sd bI 235 yE:=Aq
attribute [local go_sem] Kj in
@[go_sem]theorem ALV{i j g:Int}(h:(Kj (CB.mk i j g)).isSome=bR):yE.F [.agg ([.int .i64 i,.int .i64 j,.int .i64 g])]=⟨bR,.bool (gd (Kj (CB.mk i j g))),[.any]⟩:=Cj ACr trivial
noncomputable def ADJ:Bl:=Aj bI Tryz.f192 [0,1,3,4] [] [] []
noncomputable abbrev yD:Ar:=Cw [(139,lj),(235,yE)] ADJ [.bor,.bor]
instance:Sd bI 192 yD:=Aq
attribute [local go_sem] LL in
@[go_sem]theorem ALU{j:List AJ}{i o g:Int}(h:(LL j (CB.mk i o g)).isSome=bR):yD.F [.sl 2 (bN AP j),.agg ([.int .i64 i,.int .i64 o,.int .i64 g])]=⟨bR,.int .i64 (gd (LL j (CB.mk i o g))),[.any,.any]⟩:=Cj ADJ trivial
noncomputable def ADm:Bl:=Aj bI Tryz.f142 [0,1,3,4,5] [] [] []
noncomputable abbrev yC:Ar:=Cw [(192,yD)] ADm [.bor,.bor]
instance:Sd bI 142 yC:=Aq
attribute [local go_sem] KV in
@[go_sem]theorem ALT{j:List AJ}{i o g:Int}(h:(KV j (CB.mk i o g)).isSome=bR):yC.F [.sl 2 (bN AP j),.agg ([.int .i64 i,.int .i64 o,.int .i64 g])]=⟨bR,.int .i64 (gd (KV j (CB.mk i o g))),[.any,.any]⟩:=Cj ADm trivial
noncomputable def AJn:Bl:=Aj bI Tryz.f93 [0,1,3,4,5,6] [(406,32),(407,16)] [] []
noncomputable abbrev rC:Ar:=Cw [(142,yC),(144,yH),(143,yG)] AJn [.bor,.bor]
instance s_157:Sd bI 93 rC:=Aq
attribute [local go_sem] Co in
@[go_sem]theorem AFE{j:List AJ}{i o g:Int}(h:(Co j (CB.mk i o g)).isSome=bR):rC.F [.sl 2 (bN AP j),.agg ([.int .i64 i,.int .i64 o,.int .i64 g])]=⟨bR,.tup [.int .i64 ((gd (Co j (CB.mk i o g))).1),.int .i64 ((gd (Co j (CB.mk i o g))).2)],[.any,.any]⟩:=Cj AJn trivial
theorem AKz:rC.modes=[.bor,.bor]:=rfl
theorem AIf{g:List AJ}{x:CB}{i:Int×Int}(h:Co g x=bS i):rC.F [.sl 2 (bN AP g),PU x]=⟨bR,.tup [.int .i64 i.1,.int .i64 i.2],[.any,.any]⟩:=by
 have q:=AFE (MZ h);simp only[h,BA] at q;exact q
noncomputable def ADI:Bl:=Aj bI Tryz.f194 [0,1,2] [] [] []
noncomputable abbrev yB:Ar:=Cw [(180,fF),(236,rD)] ADI [.bor]
instance:Sd bI 194 yB:=Aq
attribute [local go_sem] NO in
@[go_sem]theorem ALS{i g:Int}(h:(NO (AF.mk i g)).isSome=bR):yB.F [.agg ([.int .i64 i,.int .i64 g])]=⟨bR,.bool (gd (NO (AF.mk i g))),[.any]⟩:=Cj ADI trivial
noncomputable def ADl:Bl:=Aj bI Tryz.f145 [0,1,2,4,5] [] [] []
noncomputable abbrev rB:Ar:=Cw [(194,yB),(139,lj),(195,rE)] ADl [.bor,.bor]
instance s_159:Sd bI 145 rB:=Aq
attribute [local go_sem] EV in
@[go_sem]theorem AFD{i g:Int}{j:List AJ}(h:(EV (AF.mk i g) j).isSome=bR):rB.F [.agg ([.int .i64 i,.int .i64 g]),.sl 2 (bN AP j)]=⟨bR,.tup [.fresh 1 (bN (cL .i64) ((gd (EV (AF.mk i g) j)).1)),.int .i64 ((gd (EV (AF.mk i g) j)).2)],[.any,.any]⟩:=Cj ADl trivial
theorem AKy:rB.modes=[.bor,.bor]:=rfl
theorem AIe{j:AF}{g:List AJ}{i:(List Int)×Int}(h:EV j g=bS i):rB.F [BK j,.sl 2 (bN AP g)]=⟨bR,.tup [.fresh 1 (bN (cL .i64) i.1),.int .i64 i.2],[.any,.any]⟩:=by
 have q:=AFD (MZ h);simp only[h,BA] at q;exact q
noncomputable def AAl:Bl:=Aj bI Tryz.f81 [0,1,4,5,6] [] [] [(23,4,12)]
noncomputable def cu:List (Nat×Ar):=[(65,fE),(131,XG)]
instance:SdL bI cu:=by unfold cu;infer_instance
noncomputable abbrev rA:Ar:=Xl cu AAl [.bor,.bor]
instance s_160:Sd bI 81 rA:=SN
noncomputable def bV(j:List AA)(g:List UInt8)(o:AA):Int->St
 | i=>⟨[.sl 5 (bN AC j),.str g,.ref 3200000 0 0,.any,.int .i64 i],[],[(3200000,⟨5,[AC o]⟩)],bR⟩
noncomputable def aR(i:List AA)(g:List UInt8)(j:AA):(Unit⊕(AA×Int))->FU
 | .inl y=>(.exit 0,⟨[.any,.any,.ref 3200000 0 0,.any,.any],[],[(3200000,⟨5,[AC j]⟩)],bR⟩)
 | .inr y=>(.ret,⟨[.any,.any,.ref 3200000 0 0,.int .i64 y.2,.any],[],[(3200000,⟨5,[AC y.1]⟩)],bR⟩)
attribute [local go_sem] GS cu bV aR in
theorem Tr{i:List AA}{g:List UInt8}{p:AA}{j:Int}{o:Unit⊕(AA×Int)}(h:AE (GS i g p) j=bS o):∃ C,∀ L,C<=L->Jj cu L AAl 0 (bV i g p j)=aR i g p o:=LF AAl trivial
attribute [local go_sem] GH cu bV aR in
@[go_sem]theorem AFC{i:List AA}{g:List UInt8}(h:(GH i g).isSome=bR):rA.F [.sl 5 (bN AC i),.str g]=⟨bR,.tup [AC ((gd (GH i g)).1),.int .i64 ((gd (GH i g)).2)],[.any,.any]⟩:=Cj AAl @Tr
theorem AKx:rA.modes=[.bor,.bor]:=rfl
theorem AId{i:List AA}{g:List UInt8}{j:AA×Int}(h:GH i g=bS j):rA.F [.sl 5 (bN AC i),.str g]=⟨bR,.tup [AC j.1,.int .i64 j.2],[.any,.any]⟩:=by
 have q:=AFC (MZ h);simp only[h,BA] at q;exact q
noncomputable def AJr:Bl:=Aj bI Tryz.f83 [0,1,2,6] [(709,16)] [] []
noncomputable abbrev yA:Ar:=Cw [(132,rG)] AJr [.bor,.bor,.bor]
instance:Sd bI 83 yA:=Aq
attribute [local go_sem] Fg in
@[go_sem]theorem ALR{I:Int}{J i:List UInt8}{R:Int}{o:Bool}{p:Int}{C g:List UInt8}{P:Int}{j:Bool}{T:Int}(h:(Fg (AA.mk I J i R o) (AA.mk p C g P j) T).isSome=bR):yA.F [.ptr 5 [(.agg ([.int .i64 I,.str J,.str i,.int .i64 R,.bool o]))] 0 0,.ptr 5 [(.agg ([.int .i64 p,.str C,.str g,.int .i64 P,.bool j]))] 0 0,.int .i64 T]=⟨bR,.bool (gd (Fg (AA.mk I J i R o) (AA.mk p C g P j) T)),[.any,.any,.any]⟩:=Cj AJr trivial
noncomputable def tU:Bl:=Aj bI Tryz.f49 [0,1,2,6,7,8,9,10] [] [] [(103,32,24),(231,103,24)]
noncomputable def Wj:List (Nat×Ar):=[(65,fE),(75,OO),(83,yA)]
instance:SdL bI Wj:=by unfold Wj;infer_instance
noncomputable abbrev qz:Ar:=Xl Wj tU [.bor,.bor,.bor]
instance s_162:Sd bI 49 qz:=SN
noncomputable def VP(j:List AA)(g o i:Int):((List (List Int))×Int)->St
 | (out,k)=>⟨[.sl 5 (bN AC j),.int .i64 g,.int .i64 o,.any,.any,.own 3200000,.int .i64 i,.int .i64 k],[],[(3200000,⟨1,bN (mh 1 (cL .i64)) out⟩)],bR⟩
noncomputable def VA(j:List AA)(g o i:Int)(y:(List (List Int))):FU:=(.exit 2,⟨[.sl 5 (bN AC j),.int .i64 g,.int .i64 o,.any,.any,.own 3200000,.int .i64 i,.any],[],[(3200000,⟨1,bN (mh 1 (cL .i64)) y⟩)],bR⟩)
attribute [local go_sem] Ca Wj VP VA in
theorem KN{j:List AA}{g C i:Int}{o:(List (List Int))×Int}{p:(List (List Int))}(h:AE (Ca j g C i) o=bS p):∃ I,∀ L,I<=L->Jj Wj L tU 1 (VP j g C i o)=VA j g C i p:=LF tU trivial
noncomputable def bU(j:List AA)(g o:Int):((List (List Int))×Int)->St
 | (out,i)=>⟨[.sl 5 (bN AC j),.int .i64 g,.int .i64 o,.any,.any,.own 3200000,.int .i64 i,.any],[],[(3200000,⟨1,bN (mh 1 (cL .i64)) out⟩)],bR⟩
noncomputable def aQ(i:List AA)(g j:Int)(y:(List (List Int))):FU:=(.exit 0,⟨[.any,.any,.any,.any,.any,.own 3200000,.any,.any],[],[(3200000,⟨1,bN (mh 1 (cL .i64)) y⟩)],bR⟩)
attribute [local go_sem] Cb Wj bU aQ VP VA in
theorem Nt{i:List AA}{g p:Int}{j:(List (List Int))×Int}{o:(List (List Int))}(h:AE (Cb i g p) j=bS o):∃ C,∀ L,C<=L->Jj Wj L tU 0 (bU i g p j)=aQ i g p o:=LF tU @KN
attribute [local go_sem] Ck Wj VP VA bU aQ in
@[go_sem]theorem AFB{i:List AA}{g j:Int}(h:(Ck i g j).isSome=bR):qz.F [.sl 5 (bN AC i),.int .i64 g,.int .i64 j]=⟨bR,.tup [.fresh 1 (bN (mh 1 (cL .i64)) ((gd (Ck i g j)).1)),.int .i64 ((gd (Ck i g j)).2)],[.any,.any,.any]⟩:=Cj tU (an @KN @Nt)
theorem AKw:qz.modes=[.bor,.bor,.bor]:=rfl
theorem AIc{i:List AA}{g j:Int}{o:(List (List Int))×Int}(h:Ck i g j=bS o):qz.F [.sl 5 (bN AC i),.int .i64 g,.int .i64 j]=⟨bR,.tup [.fresh 1 (bN (mh 1 (cL .i64)) o.1),.int .i64 o.2],[.any,.any,.any]⟩:=by
 have q:=AFB (MZ h);simp only[h,BA] at q;exact q
noncomputable def ADr:Bl:=Aj bI Tryz.f134 [0,2] [] [] []
noncomputable abbrev Ha:Ar:=Cw [] ADr [.bor]
instance s_spec_l27R_day:Sd bI 134 Ha:=Aq
attribute [local go_sem] FA in
@[go_sem]theorem QV{o:List UInt8}{j g:Int}{i:List AW}(h:(FA (Gf.mk o j g i)).isSome=bR):Ha.F [.ptr 4 [(.agg ([.str o,.int .i64 j,.int .i64 g,.sl 3 (bN Bz i)]))] 0 0]=⟨bR,.int .i64 (gd (FA (Gf.mk o j g i))),[.any]⟩:=Cj ADr trivial
theorem Wd{r:Gf}{g:Int}(h:FA r=bS g):Ha.F [.ptr 4 [Ec r] 0 0]=⟨bR,.int .i64 g,[.any]⟩:=by
 have q:=QV (MZ h);simp only[h,BA] at q;exact q
noncomputable def AAj:Bl:=Aj bI Tryz.f84 [0,2,3,4,5] [] [] [(13,5,2)]
noncomputable def pH:List (Nat×Ar):=[]
instance:SdL bI pH:=SdL0
noncomputable abbrev RS:Ar:=Cw pH AAj [.bor]
instance s_164:Sd bI 84 RS:=Aq
noncomputable def bT(n:Int):((List UInt8)×Int)->St
 | (out,k)=>⟨[.int .i64 n,.any,.own 3200000,.int .i64 k,.any],[],[(3200000,⟨1,bN Fm out⟩)],bR⟩
noncomputable def aP(n:Int)(y:(List UInt8)):FU:=(.exit 0,⟨[.int .i64 n,.any,.own 3200000,.any,.any],[],[(3200000,⟨1,bN Fm y⟩)],bR⟩)
attribute [local go_sem] EA bT aP in
theorem Tq{n:Int}{g:(List UInt8)×Int}{i:(List UInt8)}(h:AE (EA n) g=bS i):∃ j,∀ L,j<=L->Jj pH L AAj 0 (bT n g)=aP n i:=LF AAj trivial
attribute [local go_sem] BB pH bT aP in
@[go_sem]theorem AFA{n:Int}(h:(BB n).isSome=bR):RS.F [.int .i64 n]=⟨bR,.str (gd (BB n)),[.any]⟩:=Cj AAj @Tq
theorem AKv:RS.modes=[.bor]:=rfl
theorem AIb{n:Int}{g:(List UInt8)}(h:BB n=bS g):RS.F [.int .i64 n]=⟨bR,.str g,[.any]⟩:=by
 have q:=AFA (MZ h);simp only[h,BA] at q;exact q
noncomputable def AJp:Bl:=Aj bI Tryz.f88 [0,2] [(104,16),(116,16)] [] []
noncomputable abbrev XF:Ar:=Cw [(84,RS)] AJp [.bor]
instance s_165:Sd bI 88 XF:=Aq
attribute [local go_sem] Dz in
@[go_sem]theorem AEz{j:Int}{i:List UInt8}{g:Int}(h:(Dz (AW.mk j i g)).isSome=bR):XF.F [.ptr 3 [(.agg ([.int .i64 j,.str i,.int .i64 g]))] 0 0]=⟨bR,.str (gd (Dz (AW.mk j i g))),[.any]⟩:=Cj AJp trivial
theorem AKu:XF.modes=[.bor]:=rfl
theorem zQ{i:AW}{g:(List UInt8)}(h:Dz i=bS g):XF.F [.ptr 3 [Bz i] 0 0]=⟨bR,.str g,[.any]⟩:=by
 have q:=AEz (MZ h);simp only[h,BA] at q;exact q
noncomputable def qQ:Bl:=Aj bI Tryz.f136 [0,1,4,5,6] [] [] [(26,8,4)]
noncomputable def pG:List (Nat×Ar):=[]
instance:SdL bI pG:=SdL0
noncomputable abbrev fD:Ar:=Cw pG qQ [.bor,.bor]
instance s_166:Sd bI 136 fD:=Aq
noncomputable def bQ(g:List UInt8):(Int×Int)->St
 | (j,i)=>⟨[.any,.str g,.any,.int .i64 j,.int .i64 i],[],[],bR⟩
noncomputable def aO(g:List UInt8)(y:Int):FU:=(.exit 0,⟨[.any,.any,.any,.int .i64 y,.any],[],[],bR⟩)
attribute [local go_sem] EG bQ aO in
theorem SH{g:List UInt8}{i:Int×Int}{j:Int}(h:AE (EG g) i=bS j):∃ o,∀ L,o<=L->Jj pG L qQ 0 (bQ g i)=aO g j:=LF qQ trivial
attribute [local go_sem] Ez pG bQ aO in
@[go_sem]theorem AEy{g:Int}{i:List UInt8}(h:(Ez g i).isSome=bR):fD.F [.int .i64 g,.str i]=⟨bR,.int .i64 (gd (Ez g i)),[.any,.any]⟩:=Cj qQ @SH
theorem AIa{g:Int}{i:List UInt8}{j:Int}(h:Ez g i=bS j):fD.F [.int .i64 g,.str i]=⟨bR,.int .i64 j,[.any,.any]⟩:=by
 have q:=AEy (MZ h);simp only[h,BA] at q;exact q
noncomputable def ADq:Bl:=Aj bI Tryz.f135 [0,1,4] [] [] []
noncomputable abbrev fC:Ar:=Cw [(88,XF),(84,RS)] ADq [.bor,.bor]
instance s_167:Sd bI 135 fC:=Aq
attribute [local go_sem] He in
@[go_sem]theorem AEx{j o:Int}{i:List UInt8}{g:Int}(h:(He j (AW.mk o i g)).isSome=bR):fC.F [.int .i64 j,.ptr 3 [(.agg ([.int .i64 o,.str i,.int .i64 g]))] 0 0]=⟨bR,.str (gd (He j (AW.mk o i g))),[.any,.any]⟩:=Cj ADq trivial
theorem AIZ{g:Int}{j:AW}{i:(List UInt8)}(h:He g j=bS i):fC.F [.int .i64 g,.ptr 3 [Bz j] 0 0]=⟨bR,.str i,[.any,.any]⟩:=by
 have q:=AEx (MZ h);simp only[h,BA] at q;exact q
noncomputable def AAu:Bl:=Aj bI Tryz.f18 [0,1,4,5,6,7] [] [] [(59,25,4)]
noncomputable def pF:List (Nat×Ar):=[]
instance:SdL bI pF:=SdL0
noncomputable abbrev Zq:Ar:=Cw pF AAu [.bor,.bor]
instance s_168:Sd bI 18 Zq:=Aq
noncomputable def bP(s_:List UInt8)(g:UInt8):((List (List UInt8))×Int×Int)->St
 | (out,from_,i)=>⟨[.str s_,.int .u8 (g.toNat:Int),.any,.own 3200000,.int .i64 from_,.int .i64 i],[],[(3200000,⟨1,bN e3 out⟩)],bR⟩
noncomputable def aN(s_:List UInt8)(g:UInt8)(y:(List (List UInt8))×Int):FU:=(.exit 0,⟨[.str s_,.any,.any,.own 3200000,.int .i64 y.2,.any],[],[(3200000,⟨1,bN e3 y.1⟩)],bR⟩)
attribute [local go_sem] Eo bP aN in
theorem SI{s_:List UInt8}{j:UInt8}{g:(List (List UInt8))×Int×Int}{i:(List (List UInt8))×Int}(h:AE (Eo s_ j) g=bS i):∃ o,∀ L,o<=L->Jj pF L AAu 0 (bP s_ j g)=aN s_ j i:=LF AAu trivial
attribute [local go_sem] Dc pF bP aN in
@[go_sem]theorem AEw{s_:List UInt8}{g:UInt8}(h:(Dc s_ g).isSome=bR):Zq.F [.str s_,.int .u8 (g.toNat:Int)]=⟨bR,.fresh 1 (bN e3 (gd (Dc s_ g))),[.any,.any]⟩:=Cj AAu @SI
theorem AKt:Zq.modes=[.bor,.bor]:=rfl
theorem ox{s_:List UInt8}{g:UInt8}{i:(List (List UInt8))}(h:Dc s_ g=bS i):Zq.F [.str s_,.int .u8 (g.toNat:Int)]=⟨bR,.fresh 1 (bN e3 i),[.any,.any]⟩:=by
 have q:=AEw (MZ h);simp only[h,BA] at q;exact q
noncomputable def tT:Bl:=Aj bI Tryz.f76 [0,2,3,4,5,6] [] [] [(57,25,6)]
noncomputable def Wi:List (Nat×Ar):=[(126,lm),(84,RS)]
instance:SdL bI Wi:=by unfold Wi;infer_instance
noncomputable abbrev Zp:Ar:=Cw Wi tT [.bor]
instance s_169:Sd bI 76 Zp:=Aq
noncomputable def VN(s_ t:List UInt8):(Int×Int)->St
 | (n,i)=>⟨[.str s_,.any,.any,.str t,.int .i64 n,.int .i64 i],[],[],bR⟩
noncomputable def Uz(s_ t:List UInt8):(Int⊕(Int×Bool))->FU
 | .inl y=>(.exit 0,⟨[.str s_,.any,.any,.str t,.int .i64 y,.any],[],[],bR⟩)
 | .inr y=>(.ret,⟨[.any,.int .i64 y.1,.bool y.2,.any,.any,.any],[],[],bR⟩)
attribute [local go_sem] Dt Wi VN Uz in
theorem Qq{s_ t:List UInt8}{g:Int×Int}{i:Int⊕(Int×Bool)}(h:AE (Dt s_ t) g=bS i):∃ j,∀ L,j<=L->Jj Wi L tT 0 (VN s_ t g)=Uz s_ t i:=LF tT trivial
noncomputable def bO(s_ t:List UInt8):(Int×Int)->St
 | (n,i)=>⟨[.str s_,.any,.any,.str t,.int .i64 n,.int .i64 i],[],[],bR⟩
noncomputable def aM(s_ t:List UInt8):(Int⊕(Int×Bool))->FU
 | .inl y=>(.exit 0,⟨[.str s_,.any,.any,.str t,.int .i64 y,.any],[],[],bR⟩)
 | .inr y=>(.ret,⟨[.any,.int .i64 y.1,.bool y.2,.any,.any,.any],[],[],bR⟩)
attribute [local go_sem] Je Wi bO aM VN Uz in
theorem Qp{s_ t:List UInt8}{g:Int×Int}{i:Int⊕(Int×Bool)}(h:AE (Je s_ t) g=bS i):∃ j,∀ L,j<=L->Jj Wi L tT 0 (bO s_ t g)=aM s_ t i:=LF tT trivial
attribute [local go_sem] Bi Wi VN Uz bO aM in
@[go_sem]theorem AEv{s_:List UInt8}(h:(Bi s_).isSome=bR):Zp.F [.str s_]=⟨bR,.tup [.int .i64 ((gd (Bi s_)).1),.bool ((gd (Bi s_)).2)],[.any]⟩:=Cj tT (an @Qq @Qp)
theorem AKs:Zp.modes=[.bor]:=rfl
theorem Wf{s_:List UInt8}{g:Int×Bool}(h:Bi s_=bS g):Zp.F [.str s_]=⟨bR,.tup [.int .i64 g.1,.bool g.2],[.any]⟩:=by
 have q:=AEv (MZ h);simp only[h,BA] at q;exact q
noncomputable def ADL:Bl:=Aj bI Tryz.f190 [0,2] [] [] []
noncomputable abbrev xz:Ar:=Cw [(75,OO)] ADL [.bor]
instance:Sd bI 190 xz:=Aq
attribute [local go_sem] MP in
@[go_sem]theorem ALQ{n:Int}(h:(MP n).isSome=bR):xz.F [.int .i64 n]=⟨bR,.bool (gd (MP n)),[.any]⟩:=Cj ADL trivial
noncomputable def ADs:Bl:=Aj bI Tryz.f133 [0,2] [] [] []
noncomputable abbrev fB:Ar:=Cw [(190,xz),(131,XG),(75,OO)] ADs [.bor]
instance s_171:Sd bI 133 fB:=Aq
attribute [local go_sem] Hz in
@[go_sem]theorem AEu{j:Int}{i:List UInt8}{g:Int}(h:(Hz (AW.mk j i g)).isSome=bR):fB.F [.ptr 3 [(.agg ([.int .i64 j,.str i,.int .i64 g]))] 0 0]=⟨bR,.bool (gd (Hz (AW.mk j i g))),[.any]⟩:=Cj ADs trivial
theorem AIY{i:AW}{g:Bool}(h:Hz i=bS g):fB.F [.ptr 3 [Bz i] 0 0]=⟨bR,.bool g,[.any]⟩:=by
 have q:=AEu (MZ h);simp only[h,BA] at q;exact q
section
variable (PINV:Value)
noncomputable def ZK:IR:=.seq (.test bX [ PM 15 2,PM 16 0,PO 17 (.nilck (.s 0)),PO 18 (.fldAddr 0 (.s 0)),PO 19 (.load bX 1 (.s 0)),PO 20 (.len bR (.s 0)),PO 21 (.bin bX .lss (.s 5) (.s 0)),PO 22 (.mov (.s 0)),⟨.push,23,(bS ((.s 0),bR)),.mov (.v 0)⟩,⟨.push,24,(bS ((.s 1),bR)),.nilck (.s 0)⟩,⟨.push,25,(bS ((.s 2),bR)),.fldAddr 0 (.s 0)⟩,⟨.push,26,(bS ((.s 3),bR)),.load bX 1 (.s 0)⟩,⟨.push,27,(bS ((.s 4),bR)),.mov (.v 2)⟩,⟨.push,28,(bS ((.s 5),bR)),.ixStr (.s 1) (.s 0)⟩,⟨.push,29,(bS ((.s 6),bR)),.bin bX .neq (.s 0) (.c (.int .u8 (10)))⟩,PO 30 (.pick (.s 7) (.s 0) (.c (.bool bX)))] (.s 0) (.skip) (.exit 0)) (.block 1 (.region bX [ PM 31 2,PO 32 (.bin bX .add (.s 0) (I6 1)),VS 2 3 0]))
noncomputable def Ub:List Bool:=[bR,bR,bR,bX,bX,bX,bX,bX,bR,bR,bR]
noncomputable def Ua:List Bool:=[bR,bR,bR,bX,bX,bX,bX,bX,bR,bR,bR]
noncomputable def UZ:List Bool:=[bX,bR,bR,bX,bX,bX,bX,bX,bR,bR,bR]
noncomputable def fq:List Nat:=[0,2,3,4,5,6,7,8,9,10,0]
noncomputable def eC:Bl:=⟨1,11,.seq (.region bX [ VO 1 2 (.mov (.c (.bool bX)))]) (.seq (.region bX [ PM 11 0,PO 12 (.nilck (.s 0)),PO 13 (.fldAddr 1 (.s 0)),PO 14 (.load bX 1 (.s 0)),VS 2 3 0]) (.seq (.block 0 (.loop Ub Ua UZ ZK)) (.seq (.test bX [ PM 33 2,PM 34 0,PO 35 (.nilck (.s 0)),PO 36 (.fldAddr 0 (.s 0)),PO 37 (.load bX 1 (.s 0)),PO 38 (.len bR (.s 0)),PO 39 (.bin bX .geq (.s 5) (.s 0))] (.s 0) (.seq (.region bX [ VO 1 2 (.mov (.c (.bool bX)))]) (.ret)) (.skip)) (.seq (.anyo 11 [ SO 0 40 (.mov (.v 0)),SO 1 41 (.nilck (.s 0)), SO 2 42 (.fldAddr 0 (.s 1)),SO 3 43 (.load bX 1 (.s 2)),SO 4 44 (.mov (.v 0)),SO 5 45 (.nilck (.s 4)),SO 6 46 (.fldAddr 1 (.s 5)),SO 7 47 (.load bX 1 (.s 6)),SO 8 48 (.mov (.v 2)),SO 9 49 (.pur (.slice 0 (.s 3) (bS (.s 7)) (bS (.s 8)))),SO 10 50 (.pur (.call 18 [(.s 9),(.c (.int .u8 (32)))])),VS 3 4 10] [] .skip) (.seq (.test bX [ PM 51 3,PO 52 (.len bX (.s 0)),PO 53 (.bin bX .neq (.s 0) (I6 4))] (.s 0) (.seq (.region bX [ VO 1 2 (.mov (.c (.bool bX)))]) (.ret)) (.skip)) (.seq (.region bX [ PM 55 3,PO 56 (.ixAddr 1 (.s 0) (I6 0)),PO 57 (.load bX 1 (.s 0)),PO 58 (.call 76 [(.s 0)]),PO 54 (.mov (.s 0)),PO 59 (.ext (.s 0) 0),PO 60 (.ext (.s 1) 1),VS 4 5 1,VS 5 6 0]) (.seq (.region bX [ PM 62 3,PO 63 (.ixAddr 1 (.s 0) (I6 2)),PO 64 (.load bX 1 (.s 0)),PO 65 (.call 76 [(.s 0)]),PO 61 (.mov (.s 0)),PO 66 (.ext (.s 0) 0),PO 67 (.ext (.s 1) 1),VS 6 7 1,VS 7 8 0]) (.seq (.region bX [ PM 68 4,PM 69 3,PO 70 (.ixAddr 1 (.s 0) (I6 1)),PO 71 (.load bX 1 (.s 0)),PM 72 6,PO 73 (.build [.int .i64 (0),.str [],.int .i64 (0)] [(0,1,(.s 4)),(1,1,(.s 1)),(2,1,(.s 0))]),VO 8 9 (.alloc (.agg [.int .i64 (0),.str [],.int .i64 (0)])),⟨.no,0,cS,.store 3 (.v 8) (.s 0)⟩]) (.seq (.anyo 17 [ SO 0 74 (.mov (.v 5)),SO 1 75 (.un .not (.s 0)),SO 2 76 (.mov (.s 1)),⟨.slot 3,77,(bS ((.s 2),bX)),.mov (.v 7)⟩,⟨.slot 4,78,(bS ((.s 2),bX)),.un .not (.s 3)⟩,SO 5 79 (.pick (.s 2) (.c (.bool bR)) (.s 4)),SO 6 80 (.mov (.s 5)),⟨.slot 7,81,(bS ((.s 6),bX)),.call 133 [(.v 8)]⟩,⟨.slot 8,82,(bS ((.s 6),bX)),.un .not (.s 7)⟩,SO 9 83 (.pick (.s 6) (.c (.bool bR)) (.s 8)),SO 10 84 (.mov (.s 9)),⟨.slot 11,85,(bS ((.s 10),bX)),.fldAddr 0 (.v 8)⟩,⟨.slot 12,86,(bS ((.s 10),bX)),.load bX 1 (.s 11)⟩,⟨.slot 13,87,(bS ((.s 10),bX)),.mov (.v 0)⟩,⟨.slot 14,88,(bS ((.s 10),bX)),.call 134 [(.s 13)]⟩,⟨.slot 15,89,(bS ((.s 10),bX)),.bin bX .lss (.s 12) (.s 14)⟩,SO 16 90 (.pick (.s 10) (.c (.bool bR)) (.s 15))] [] (.cond (.s 16) (.seq (.region bX [ VO 1 2 (.mov (.c (.bool bX)))]) (.ret)) (.skip))) (.seq (.anyo 6 [ SO 0 91 (.mov (.v 0)),SO 1 92 (.nilck (.s 0)),SO 2 93 (.fldAddr 2 (.s 1)),SO 3 94 (.load bX 1 (.s 2)),SO 4 95 (.callp 88 [(.v 8)]),SO 5 96 (.callp 136 [(.s 3),(.s 4)]),VS 9 10 5] [] .skip) (.seq (.anyo 14 [ SO 0 97 (.mov (.v 9)),SO 1 98 (.callp 135 [(.s 0),(.v 8)]),SO 2 99 (.mov (.v 0)),SO 3 100 (.nilck (.s 2)),SO 4 101 (.fldAddr 0 (.s 3)),SO 5 102 (.load bX 1 (.s 4)),SO 6 103 (.mov (.v 0)),SO 7 104 (.nilck (.s 6)),SO 8 105 (.fldAddr 1 (.s 7)),SO 9 106 (.load bX 1 (.s 8)),SO 10 107 (.mov (.v 2)),SO 11 108 (.bin bX .add (.s 10) (I6 1)),SO 12 109 (.pur (.slice 0 (.s 5) (bS (.s 9)) (bS (.s 11)))),SO 13 110 (.bin bX .neq (.s 1) (.s 12))] [] (.cond (.s 13) (.seq (.region bX [ VO 1 2 (.mov (.c (.bool bX)))]) (.ret)) (.skip))) (.skip)))))))))))),[.t 1,.t 2,.t 8,.t 9]⟩
noncomputable def CW:List (Nat×Ar):=[(18,Zq),(76,Zp),(133,fB),(134,Ha),(88,XF),(136,fD),(135,fC)]
theorem Qc:Iw CW 18=bS Zq:=rfl
theorem Qb:Iw CW 76=bS Zp:=rfl
theorem Pn:Iw CW 133=bS fB:=rfl
theorem Pm:Iw CW 134=bS Ha:=rfl
theorem Qa:Iw CW 88=bS XF:=rfl
theorem Pk:Iw CW 136=bS fD:=rfl
theorem Pl:Iw CW 135=bS fC:=rfl
attribute [go_sem] Qc Qb Pn Pm Qa Pk Pl
noncomputable def Hw(r:Gf)(i:Bool):Int->St
 | g=>⟨[.ptr 4 [Ec r] 0 0,.bool i,.int .i64 g,.any,.any,.any,.any,.any,.any,.any,.cv PINV],[],[],bR⟩
noncomputable def Hv(r:Gf)(g:Bool)(y:Int):FU:=(.exit 0,⟨[.ptr 4 [Ec r] 0 0,.bool g,.int .i64 y,.any,.any,.any,.any,.any,.any,.any,.cv PINV],[],[],bR⟩)
attribute [local go_sem] eC Hw Hv ZK Ub Ua UZ in
theorem QY{r:Gf}{C:Bool}{j o:Int}(h:AE (DU r C) j=bS o):∃ P,∀ L,P<=L->LU (Bn (Iw CW) L ZK) Ub Ua UZ L (Hw PINV r C j)=Hv PINV r C o:=by
 refine KG (E:=Hw PINV r C) (R:=Hv PINV r C) (fun y=>by first|(intro c;cases c)|(rcases y with y|y<;>(intro c;cases c))|(rcases y with y|y|y<;>(intro c;cases c))) ?_ h;clear h;intro I T h;dsimp only[DU] at h;obtain⟨p,h⟩:=AO h;rcases EX p with⟨g,p⟩|g
 ·try simp only[go_sem,n1,n2,n3,n4] at g
  all_goals
  try simp only[go_sem,n1,n2,n3,n4,g] at p
  all_goals
  rcases Ab h with⟨i,h⟩|⟨i,h⟩
  all_goals
  try simp only[go_sem,n1,n2,n3,n4,g,p] at i
  all_goals
  obtain rfl:=AR h;refine⟨0,fun L J=>?_⟩;simp only[go_sem,g,p,i]
 ·try simp only[go_sem,n1,n2,n3,n4] at g
  all_goals
  rcases Ab h with⟨i,h⟩|⟨i,h⟩
  ·try simp only[go_sem,n1,n2,n3,n4,g] at i
   all_goals
   (simp_all)
  ·try simp only[go_sem,n1,n2,n3,n4,g] at i
   all_goals
   obtain rfl:=AR h;refine⟨0,fun L J=>?_⟩;simp only[go_sem,g,i]
noncomputable def AIt(q:FU)(y:Option (Int×Int×AW)):Prop:=match y with
 | none=>q.1 = .ret∧(q.2.ok=bR∧q.2.vs.getD 1 .any = .bool bX)
 | some p=>q.1 = .norm∧(q.2.ok=bR∧(q.2.vs.getD 2 .any = .int .i64 p.1∧(q.2.vs.getD 9 .any = .int .i64 p.2.1∧q.2.vs.getD 10 .any = .cv PINV∧∃ k,q.2.vs.getD 8 .any = .ref k 0 0∧AK k q.2.ob=bS ⟨3,[Bz p.2.2]⟩)))
attribute [local go_sem] Hw Hv Ub Ua UZ eC in
theorem tN{r:Gf}{y_:Option (Int×Int×AW)}(h:JF r=bS y_):∃ L0,∀ L,L0<=L->AIt PINV (Bn (Iw CW) L eC.body ⟨[.ptr 4 [Ec r] 0 0,.any,.any,.any,.any,.any,.any,.any,.any,.any,.cv PINV],[],[],bR⟩) y_:=by
 dsimp only[JF] at h;obtain⟨c8,z3,h⟩:=AN h;obtain⟨a4,I⟩:=QY PINV z3;rcases Ab h with⟨P,h⟩|⟨P,h⟩
 ·try simp only[go_sem,n1,n2,n3,n4] at P
  all_goals
  obtain rfl:=AR h;refine⟨a4,fun L hL=>?_⟩;have I:=I L (by omega);try simp only[go_sem,P] at I
  simp only[go_sem,P,I];exact⟨rfl,rfl,rfl⟩
 ·try simp only[go_sem,n1,n2,n3,n4] at P
  all_goals
  obtain⟨T,h⟩:=AO h;try simp only[go_sem,n1,n2,n3,n4,P] at T
  all_goals
  obtain⟨b4,z6,h⟩:=AN h;have a2:=ox z6;try simp only[go_sem,P,T] at a2
  rcases Ab h with⟨z7,h⟩|⟨z7,h⟩
  ·try simp only[go_sem,n1,n2,n3,n4,P,T] at z7
   all_goals
   obtain rfl:=AR h;refine⟨a4,fun L hL=>?_⟩;have I:=I L (by omega);try simp only[go_sem,P,T,z7] at I
   simp only[go_sem,P,T,a2,z7,I];exact⟨rfl,rfl,rfl⟩
  ·try simp only[go_sem,n1,n2,n3,n4,P,T] at z7
   all_goals
   obtain⟨z8,h⟩:=AO h;have a1:=GX z8;have a7:=BX e3 b4 a1;try simp only[go_sem] at a1
   try simp only[go_sem] at a7
   try simp only[go_sem,n1,n2,n3,n4,P,T,z7] at z8
   all_goals
   obtain⟨c7,z9,h⟩:=AN h;have a8:=Wf z9;try simp only[go_sem,P,T,z7,z8] at a8
   obtain⟨i,h⟩:=AO h;have ao:=GX i;have av:=BX e3 b4 ao;try simp only[go_sem] at ao
   try simp only[go_sem] at av
   try simp only[go_sem,n1,n2,n3,n4,P,T,z7,z8] at i
   all_goals
   obtain⟨cn,cb,h⟩:=AN h;have ax:=Wf cb;try simp only[go_sem,P,T,z7,z8,i] at ax
   obtain⟨j,h⟩:=AO h;have aj:=GX j;have au:=BX e3 b4 aj;try simp only[go_sem] at aj
   try simp only[go_sem] at au
   try simp only[go_sem,n1,n2,n3,n4,P,T,z7,z8,i] at j
   all_goals
   obtain⟨b3,h⟩:=AO h;rcases EX b3 with⟨g,b3⟩|g
   ·try simp only[go_sem,n1,n2,n3,n4,P,T,z7,z8,i,j] at g
    all_goals
    obtain⟨cm,o⟩:=zX b3;have a3:=AIY o;try simp only[go_sem,n1,n2,n3,n4,P,T,z7,z8,i,j,g] at o
    all_goals
    try simp only[go_sem,P,T,z7,z8,i,j,g] at a3
    obtain⟨bb,h⟩:=AO h;rcases EX bb with⟨J,bb⟩|J
    ·try simp only[go_sem,n1,n2,n3,n4,P,T,z7,z8,i,j,g,o] at J
     all_goals
     obtain⟨cl,U⟩:=zX bb;have a9:=Wd U;try simp only[go_sem,n1,n2,n3,n4,P,T,z7,z8,i,j,g,o,J] at U
     all_goals
     try simp only[go_sem,P,T,z7,z8,i,j,g,o,J] at a9
     rcases Ab h with⟨C,h⟩|⟨C,h⟩
     ·try simp only[go_sem,n1,n2,n3,n4,P,T,z7,z8,i,j,g,o,J,U] at C
      all_goals
      obtain rfl:=AR h;refine⟨a4,fun L hL=>?_⟩;have I:=I L (by omega);try simp only[go_sem,P,T,z7,z8,i,j,g,o,J,U,C] at I
      simp only[go_sem,P,T,a2,z7,z8,a1,a7,a8,i,ao,av,ax,j,aj,au,g,o,a3,J,U,a9,C,I];exact⟨rfl,rfl,rfl⟩
     ·try simp only[go_sem,n1,n2,n3,n4,P,T,z7,z8,i,j,g,o,J,U] at C
      all_goals
      obtain⟨cf,ca,h⟩:=AN h;have b0:=zQ ca;try simp only[go_sem,P,T,z7,z8,i,j,g,o,J,U,C] at b0
      obtain⟨cd,b9,h⟩:=AN h;have bv:=AIa b9;try simp only[go_sem,P,T,z7,z8,i,j,g,o,J,U,C] at bv
      obtain⟨cc,b8,h⟩:=AN h;have bs:=AIZ b8;try simp only[go_sem,P,T,z7,z8,i,j,g,o,J,U,C] at bs
      obtain⟨a6,h⟩:=AO h;try simp only[go_sem,n1,n2,n3,n4,P,T,z7,z8,i,j,g,o,J,U,C] at a6
      all_goals
      rcases Ab h with⟨a5,h⟩|⟨a5,h⟩
      ·try simp only[go_sem,n1,n2,n3,n4,P,T,z7,z8,i,j,g,o,J,U,C,a6] at a5
       all_goals
       obtain rfl:=AR h;refine⟨a4,fun L hL=>?_⟩;have I:=I L (by omega);try simp only[go_sem,P,T,z7,z8,i,j,g,o,J,U,C,a6,a5] at I
       simp only[go_sem,P,T,a2,z7,z8,a1,a7,a8,i,ao,av,ax,j,aj,au,g,o,a3,J,U,a9,C,b0,bv,bs,a6,a5,I];exact⟨rfl,rfl,rfl⟩
      ·try simp only[go_sem,n1,n2,n3,n4,P,T,z7,z8,i,j,g,o,J,U,C,a6] at a5
       all_goals
       obtain rfl:=AR h;refine⟨a4,fun L hL=>?_⟩;have I:=I L (by omega);try simp only[go_sem,P,T,z7,z8,i,j,g,o,J,U,C,a6,a5] at I
       simp only[go_sem,P,T,a2,z7,z8,a1,a7,a8,i,ao,av,ax,j,aj,au,g,o,a3,J,U,a9,C,b0,bv,bs,a6,a5,I];exact⟨rfl,rfl,rfl,rfl,rfl,_,rfl,rfl⟩
    ·have b6:=Nu J;rcases AAK b6 with ay|⟨ay,b1⟩
     ·try simp only[go_sem,n1,n2,n3,n4,P,T,z7,z8,i,j,g,o] at ay
      all_goals
      (simp_all)
     ·obtain⟨bo,be⟩:=AFx ay;have R:=Nu bo;have ab:=Nu be;have ad:=SM b1;try simp only[go_sem,n1,n2,n3,n4,P,T,z7,z8,i,j,g,o] at R
      all_goals
      try simp only[go_sem,n1,n2,n3,n4,P,T,z7,z8,i,j,g,o,R] at ab
      all_goals
      try simp only[go_sem,n1,n2,n3,n4,P,T,z7,z8,i,j,g,o,R,ab] at ad
      all_goals
      rcases Ab h with⟨C,h⟩|⟨C,h⟩
      ·try simp only[go_sem,n1,n2,n3,n4,P,T,z7,z8,i,j,g,o,R,ab,ad] at C
       all_goals
       obtain rfl:=AR h;refine⟨a4,fun L hL=>?_⟩;have I:=I L (by omega);try simp only[go_sem,P,T,z7,z8,i,j,g,o,R,ab,ad,C] at I
       simp only[go_sem,P,T,a2,z7,z8,a1,a7,a8,i,ao,av,ax,j,aj,au,g,o,a3,R,ab,ad,C,I];exact⟨rfl,rfl,rfl⟩
      ·try simp only[go_sem,n1,n2,n3,n4,P,T,z7,z8,i,j,g,o,R,ab,ad] at C
       all_goals
       (simp_all)
   ·have b7:=Nu g;rcases AAK b7 with a0|⟨a0,b2⟩
    ·have p:=SM a0;try simp only[go_sem,n1,n2,n3,n4,P,T,z7,z8,i,j] at p
     all_goals
     obtain⟨bb,h⟩:=AO h;rcases Ab h with⟨C,h⟩|⟨C,h⟩
     ·try simp only[go_sem,n1,n2,n3,n4,P,T,z7,z8,i,j,p] at C
      all_goals
      obtain rfl:=AR h;refine⟨a4,fun L hL=>?_⟩;have I:=I L (by omega);try simp only[go_sem,P,T,z7,z8,i,j,p,C] at I
      simp only[go_sem,P,T,a2,z7,z8,a1,a7,a8,i,ao,av,ax,j,aj,au,p,C,I];exact⟨rfl,rfl,rfl⟩
     ·try simp only[go_sem,n1,n2,n3,n4,P,T,z7,z8,i,j,p] at C
      all_goals
      (simp_all)
    ·have p:=Nu a0;have ae:=SM b2;try simp only[go_sem,n1,n2,n3,n4,P,T,z7,z8,i,j] at p
     all_goals
     try simp only[go_sem,n1,n2,n3,n4,P,T,z7,z8,i,j,p] at ae
     all_goals
     obtain⟨bb,h⟩:=AO h;rcases Ab h with⟨C,h⟩|⟨C,h⟩
     ·try simp only[go_sem,n1,n2,n3,n4,P,T,z7,z8,i,j,p,ae] at C
      all_goals
      obtain rfl:=AR h;refine⟨a4,fun L hL=>?_⟩;have I:=I L (by omega);try simp only[go_sem,P,T,z7,z8,i,j,p,ae,C] at I
      simp only[go_sem,P,T,a2,z7,z8,a1,a7,a8,i,ao,av,ax,j,aj,au,p,ae,C,I];exact⟨rfl,rfl,rfl⟩
     ·try simp only[go_sem,n1,n2,n3,n4,P,T,z7,z8,i,j,p,ae] at C
      all_goals
      (simp_all)
end
noncomputable def co:Nat->Code->Code
 | n+1,.seq _ b=>co n b
 | _,c=>c
theorem mZ(c:Code):co 0 c=c:=by cases c<;>rfl
noncomputable def TU(P:Program)(n:Nat)(g:List Nat):Nat->Code->IR->Bool
 | 0,_,.skip=>bR
 | m+1,.seq a b,.seq a' i=>oH P n g a a'&&TU P n g m b i
 | _,_,_=>bX
theorem lM{F U:Nat->Prop}{w0:c'}{g0:Gh}{o0:Cp}{ds:List Deferred}{vm:List Nat}{P:Program}{T:Kc}{n L:Nat}(hT:Kq P T):
  ∀ (m:Nat) (c:Code) (p:IR) {Q:Exit->Act->c'->Prop} {s:St} {g:Gh} {w:c'} {tmps:Array Value},TU P n vm m c p=bR->FX F U w0 g0 o0 g w tmps vm [] s->tmps.size=n->(Bn T L p s).2.ok=bR ->
  (∀ j w' g',j.size=n->FX F U w0 g0 o0 g' w' j vm [] (Bn T L p s).2->Exit.then ((co m c).wp P Q) Q (Va (Bn T L p s).1) ⟨j,ds⟩ w')->c.wp P Q ⟨tmps,ds⟩ w
 | 0,c,p,Q,s,g,w,tmps,J,h,hn,i,C=>by
  cases p<;>first|(simp[TU] at J;done)|skip
  have:=C tmps w g hn h;rw[mZ] at this;exact this
 | m+1,c,p,Q,s,g,w,tmps,J,h,hn,i,C=>by
  cases c<;>first|(simp[TU] at J;done)|skip
  rename_i a b;cases p<;>first|(simp[TU] at J;done)|skip
  rename_i a' b';simp only[TU,baT] at J;simp only[Bn] at i C
  have R:(Bn T L a' s).2.ok=bR:=by
   revert i;generalize Bn T L a' s=r;intro i;obtain⟨e,s'⟩:=r;cases e
   ·have h3:=EJ b' i;exact h3
   ·exact i
   ·exact i
  refine wp_seq (KK hT trivial a a' J.1 h hn R fun j w' g' I o=>?_);revert i C o;generalize Bn T L a' s=r;intro i C o;obtain⟨e,s'⟩:=r;cases e
  ·exact lM hT m b b' J.2 o I i C
  ·exact C _ _ _ I o
  ·exact C _ _ _ I o
noncomputable def WL(e:AW):List Value:=[.int .i64 e.Day,.string ⟨e.What.toArray⟩,.int .i64 e.Value]
noncomputable def Sa(l:List AW):List Value:=l.flatMap WL
theorem eZ:∀ (l:List AW) (i j:Nat),i<l.length->j<3->(Sa l)[i*3+j]? = (WL (l.getD i default))[j]?
 | [],i,j,hi,_=>absurd hi (by simp)
 | e::l,0,j,_,g=>by
  simp only[Sa,ew,ec,e6,e8];exact List.getElem?_append_left (by simpa[WL] using g)
 | e::l,i+1,j,hi,g=>by
  have o:=eZ l i j (by simpa using hi) g;simp only[Sa,ew,e9] at o ⊢;rw[List.getElem?_append_right (by simp only[WL,eL,ff];omega),← o]
  congr 1
  simp only[WL,eL,ff];omega
structure LS(N rb:Nat)(w:c')(r:Gf)(v:Value):Prop where
 blk:∃ T,w.heap[rb]? = bS (.cells #[.string ⟨r.s_.toArray⟩,.int .i64 r.at_,.int .i64 r.stamp_,v] T (0,0))
 row:w.ownsRow N 131 3 v r.list_.length (Sa r.list_)
 own:v.ownBlock≠bS rb
 low:N<=rb
theorem oA(e:AW){j:Nat}(i:j<3){S:Nat->Prop}{w:c'}{u:Value}(g:(WL e)[j]? = bS u):VR S w u ((Bz e).cells.getD j .any):=by
 match j,i with
 | 0,_=>cases g;exact .int
 | 1,_=>cases g;exact .str
 | 2,_=>cases g;exact .int
theorem kJ{α:Type}[Inhabited α](f:α->AV)(l:List α){i:Nat}(hi:i<l.length):(bN f l).getD i .any=f (l.getD i default):=by
 rw[gdE,List.getElem?_map,gdE,geE hi];rfl
theorem dR{S:Nat->Prop}{w:c'}{N n:Nat}{T:TypeId}{v:Value}{l:List AW}(h:w.ownsRow N T 3 v l.length (Sa l))(hS:∀ b,v.ownBlock=bS b->¬ S b):VR S w v (.sl 3 (bN Bz l)):=by
 obtain⟨_,h⟩:=h;rcases h with⟨rfl,U⟩|⟨g,cap,p,rfl,hb,hh,P,_,hs,R⟩
 ·have:l=[]:=List.length_eq_zero_iff.1 U;subst this;exact .sl 0 0 (fun _ _=>db) rfl (e7 _) (by omega) (fun h=>absurd h (by simp)) (fun i hi=>absurd hi (by simp)) (fun i j hi=>absurd hi (by simp)) (fun i j hi=>absurd hi (by simp))
 ·have I:∀ i j,i<l.length->j<3->p[i*3+j]? = (WL (l.getD i default))[j]?:=fun i j hi C=>by
   rw[← eZ l i j hi C,← R,List.getElem?_take_of_lt (by omega),Array.getElem?_toList]
  have o:∀ i j,i<l.length->j<3->p[i*3+j]? = bS (p.getD (i*3+j) db):=fun i j hi C=>by
   rw[agD,I i j hi C,geE (by simpa[WL] using C)];rfl
  refine .sl g 0 (fun i j=>p.getD (i*3+j) db) (by simp) P (by omega) (fun _=>⟨rfl,hS g rfl⟩) (fun i hi=>?_) (fun i j hi C=>?_) (fun i j hi C=>?_)
  ·rw[kJ _ _ (by simpa using hi)];exact⟨rfl,rfl⟩
  ·rw[e6,e5 w g (i*3+j) p T (0,0) hh];exact o i j (by simpa using hi) C
  ·have J:i<l.length:=by simpa using hi
   rw[kJ _ _ J];exact oA _ C (by rw[← I i j J C,o i j J C])
theorem LS.ptr{S:Nat->Prop}{N g:Nat}{w:c'}{r:Gf}{v:Value}(h:LS N g w r v)(J:¬ S g)(p:∀ b,v.ownBlock=bS b->¬ S b):VR S w (.pointer (bS ⟨g,0,cS⟩)) (.ptr 4 [Ec r] 0 0):=by
 obtain⟨T,I⟩:=h.blk;have C:=dR (n:=0) h.row p;have one:∀ {i:Nat},i < [Ec r].length->i=0:=fun h=>by simpa using h
 refine VR.ptr (sz:=4) (els:=[Ec r]) (i0:=0) (o0:=0) g 0 (fun _ j=>(#[dT ⟨r.s_.toArray⟩,.int .i64 r.at_,.int .i64 r.stamp_,v]:Array Value).getD j db) (by omega) (by simp) J (fun i hi=>?_) (fun i j hi o=>?_) (fun i j hi o=>?_)
 ·cases one hi;exact⟨rfl,rfl⟩
 ·cases one hi
  rw[e6,ec,e6,e5 w g j _ T (0,0) I]
  match j,o with
  | 0,_=>rfl
  | 1,_=>rfl
  | 2,_=>rfl
  | 3,_=>rfl
 ·cases one hi
  match j,o with
  | 0,_=>exact .str
  | 1,_=>exact .int
  | 2,_=>exact .int
  | 3,_=>exact C
theorem LS.same{N I:Nat}{w w':c'}{r:Gf}{v:Value}(h:LS N I w r v)(hs:AG (fun _=>False) w w'):LS N I w' r v:=by
 have lt:∀ {b:Nat} {o:Obj},w.heap[b]? = bS o->w'.heap[b]? = bS o:=fun {b o} i=>by
  have:b<w.heap.size:=by
   rcases et b w.heap.size with p | p
   ·exact p
   ·rw[Array.getElem?_eq_none p] at i;cases i
  rw[hs.block b this (fun c=>c),i]
 refine⟨?_,⟨h.row.1,?_⟩,h.own,h.low⟩
 ·obtain⟨T,i⟩:=h.blk;exact⟨T,lt i⟩
 ·rcases h.row.2 with j|⟨g,cap,C,j,h2,P,J⟩
  ·exact .inl j
  ·exact .inr ⟨g,cap,C,j,h2,lt P,J⟩
theorem wc:(match e4.body with|some c=>TU bI 130 fq 12 c eC.body|none=>bX)=bR:=by kernel_rfl
theorem AGR:Kq bI (Iw CW) :=
 NY (Jo s_168.s (Jo s_169.s (Jo s_171.s (Jo s_spec_l27R_day.s (Jo s_165.s (Jo s_166.s (Jo s_167.s fR)))))))
structure AEh(N rb:Nat)(w0:c')(r:Gf)(v:Value)(q:Int×Int×AW)(tmps:Array Value)(w:c')(eb:Nat):Prop where
 size:tmps.size=130
 t0:tmps.getD 0 db = .pointer (bS ⟨rb,0,cS⟩)
 t3:tmps.getD 3 db = .int .i64 q.1
 t10:tmps.getD 10 db = .int .i64 q.2.1
 t9:tmps.getD 9 db = .pointer (bS ⟨eb,0,cS⟩)
 cell:∀ j u,(WL q.2.2)[j]? = bS u->w.cell? ⟨eb,j,cS⟩=bS u
 same:AG (fun _=>False) w0 w
 eb:w0.heap.size<=eb
theorem ABr{S:Nat->Prop}{w:c'}{g:Array Value}{e:AW}(h:∀ j,j<3->VR S w (g.getD j db) ((Bz e).cells.getD j .any)){j:Nat}{u:Value}(i:(WL e)[j]? = bS u):g.getD j db=u∧j<3:=by
 have o:j<3:=by
  rcases et j 3 with p | p
  ·exact p
  ·rw[List.getElem?_eq_none (by simpa[WL] using p)] at i;cases i
 refine⟨?_,o⟩;have:=h j o;revert this;generalize g.getD j db=x
 match j,o with
 | 0,_=>intro h;cases h;cases i;rfl
 | 1,_=>intro h;cases h;cases i;rfl
 | 2,_=>intro h;cases h;cases i;rfl
theorem wa{N J:Nat}{w:c'}{r:Gf}{v:Value}{y:Option (Int×Int×AW)}{c:Code}{R:Ending->c'->Prop}(I:JF r=bS y)(hL:LS N J w r v)(hG:GT (fun _=>False) w)
  (hb:e4.body=bS c)
  (ab:y=cS->∀ g w',AG (fun _=>False) w w'->g.getD 2 db = .bool bX->g.size=130->bodyPost bI e4 R .ret ⟨g,[]⟩ w')
  (aa:∀ q,y=bS q->∀ g w' eb,AEh N J w r v q g w' eb->(co 12 c).wp bI (bodyPost bI e4 R) ⟨g,[]⟩ w') :
  Calls bI 177 #[.pointer (bS ⟨J,0,cS⟩)] w R:=by
 refine calls_of_wp Tryz.func177 hb ?_;have ad:=wc;rw[hb] at ad;simp only at ad;obtain⟨L,I⟩:=tN (.pointer (bS ⟨J,0,cS⟩)) I;have C:=I L (e7 _);clear I;rw[Tryz.ntmps177];generalize hE:Bn (Iw CW) L eC.body _=res at C
 have P:∀ b,AS (fun _=>False) ⟨fun _=>0,fun _=>0⟩ ([]:Cp) b->False:=by
  rintro b (h|⟨k,⟨⟨hm,hk⟩,_⟩,_⟩)
  ·exact h
  ·cases hk
 have ac:∀ k,¬ Ma (⟨fun _=>0,fun _=>0⟩:Gh) ([]:Cp) k:=fun k ⟨⟨hm,hk⟩,_⟩=>by cases hk
 have av:(#[cI (bS ⟨J,0,cS⟩)]++Array.replicate (130-(#[cI (bS ⟨J,0,cS⟩)]:Array Value).size) db).size=130:=by simp
 have h0:(#[cI (bS ⟨J,0,cS⟩)]++Array.replicate (130-(#[cI (bS ⟨J,0,cS⟩)]:Array Value).size) db).getD 0 db = .pointer (bS ⟨J,0,cS⟩):=by
  rw[PT,if_pos (by simp)];rfl
 have a3:FX (fun _=>False) (fun _=>False) w ⟨fun _=>0,fun _=>0⟩ [] ⟨fun _=>0,fun _=>0⟩ w (#[cI (bS ⟨J,0,cS⟩)]++Array.replicate (130-(#[cI (bS ⟨J,0,cS⟩)]:Array Value).size) db) fq []
   ⟨[.ptr 4 [Ec r] 0 0,.any,.any,.any,.any,.any,.any,.any,.any,.any,.cv (.pointer (bS ⟨J,0,cS⟩))],[],[],bR⟩:=by
  refine⟨⟨fun k h hk=>(by cases hk),fun k k' a=>(ac k a).elim,fun k a=>(ac k a).elim,fun b hb=>hb.elim,rfl,rfl,fun i hi=>?_,fun i hi=>absurd hi (by simp),fun t ht=>?_,hG.mono (AG.refl _ _) fun b _ c=>P b c⟩,AG.refl _ _,fun k a=>(ac k a).elim,fun b hb=>hb.elim,fun k hm _ hg=>(by cases hg)⟩
  ·match i,hi with
   | 0,_=>
    show VR _ w ((_:Array Value).getD 0 db) _;rw[h0];exact hL.ptr (fun c=>P _ c) fun b _ c=>P b c
   | 1,_=>exact SR.any
   | 2,_=>exact SR.any
   | 3,_=>exact SR.any
   | 4,_=>exact SR.any
   | 5,_=>exact SR.any
   | 6,_=>exact SR.any
   | 7,_=>exact SR.any
   | 8,_=>exact SR.any
   | 9,_=>exact SR.any
   | 10,_=>
    show VR _ w ((_:Array Value).getD 0 db) _;rw[h0];exact VR.cv
  ·rw[av];rcases ht with ht|ht
   ·simp only[fq,List.mem_cons,List.not_mem_nil,or_false] at ht;omega
   ·simp at ht
 have a1:res.2.ok=bR:=by
  cases y with
  | none=>exact C.2.1
  | some q=>exact C.2.1
 refine lM (L:=L) (ds:=[]) AGR 12 c eC.body ad a3 av (by rw[hE];exact a1) fun g w' g' ax o=>?_
 rw[hE] at o ⊢;cases y with
 | none=>
  obtain⟨h1,_,h2⟩:=C;rw[h1];have hv:=o.vs 1 (by decide);rw[h2] at hv;exact ab rfl g w' o.same (Nz hv) ax
 | some q=>
  obtain⟨h1,_,h2,h3,h4,k,h5,h6⟩:=C;rw[h1];have v2:=o.vs 2 (by decide);have v9:=o.vs 9 (by decide);have v10:=o.vs 10 (by decide);have v8:=o.vs 8 (by decide);rw[h2] at v2;rw[h3] at v9;rw[h4] at v10;rw[h5] at v8;have hH:=o.home k _ h6;obtain⟨hm,ho,_,ao⟩:=v8;rw[h6] at ho;cases ho
  have U:0<g'.cap k:=hH.len;obtain⟨arr,T,fz,hr,hf,hs,a0⟩:=hH.row U;have a2:Ma g' res.2.ob k:=⟨⟨_,h6⟩,U⟩
  have aj:∀ j,j<3->VR _ w' (arr.getD j db) ((Bz q.2.2).cells.getD j .any):=fun j hj=>by
   have:=a0 0 j (by simp) hj;rw[ec,e6] at this;exact this
  refine aa q rfl g w' (g'.β k) ⟨ax,?_,?_,?_,?_,fun j u hu=>?_,o.same,?_⟩
  ·have e:∀ {x p:Value},SR (AS (fun _=>False) g' res.2.ob) w' g' res.2.ob x (.cv p)->x=p:=fun h=>by cases h;rfl
   exact e v10
  ·have e:∀ {x:Value},SR (AS (fun _=>False) g' res.2.ob) w' g' res.2.ob x (.int .i64 q.1)->x = .int .i64 q.1:=fun h=>by cases h;rfl
   exact e v2
  ·have e:∀ {x:Value},SR (AS (fun _=>False) g' res.2.ob) w' g' res.2.ob x (.int .i64 q.2.1)->x = .int .i64 q.2.1:=fun h=>by cases h;rfl
   exact e v9
  ·rw[ec] at ao;exact ao
  ·obtain⟨e1,e2⟩:=ABr aj hu;rw[e5 w' (g'.β k) j arr T fz hr,← e1,agD,Array.getElem?_eq_getElem (by have bv:arr.size=g'.cap k*3:=hs;omega)];rfl
  ·rcases o.hio k a2 with h|h
   ·exact h
   ·exact h.elim
theorem ABm(t:Array Value){n:Nat}(h:t.size=n):t=((fm n).map fun i=>t.getD i db).toArray:=by
 subst h;apply Array.ext
 ·simp
 ·intro i g h2;simp[agD,Array.getElem?_eq_getElem g]
theorem xa:(bI.info? 131).map (fun i=>(i.zero,i.size,i.bytes))=bS (bS (.agg #[.int .i64 0,.string ⟨#[]⟩,.int .i64 0]),3,32):=by kernel_rfl
theorem um:bI.underlying 110=bS (.slice 131):=by kernel_rfl
theorem AFu{w:c'}{N n:Nat}{T:TypeId}{v:Value}{xs:List Value}{sz b:Nat}(h:w.ownsRow N T sz v n xs)(o:v.ownBlock=bS b):b<w.heap.size:=by
 rcases h.2 with⟨rfl,_⟩|⟨g,cap,p,rfl,_,j,_⟩
 ·cases o
 ·obtain rfl:g=b:=by simpa[dX] using o
  rcases et g w.heap.size with i | i
  ·exact i
  ·rw[Array.getElem?_eq_none i] at j;cases j
noncomputable def oo(N g:Nat)(w:c')(r:Gf)(b:Bool)(e:Ending)(w':c'):Prop:=e = .returned (.bool b)∧Below N w w'∧∃ v,LS N g w' r v
theorem Zy{N:Nat}{w w':c'}(h:AG (fun _=>False) w w')(i:N<=w.heap.size):Below N w w':=⟨h.os,h.tape,h.output,h.size,fun k g=>h.block k (by omega) fun c=>c⟩
theorem ny(l:List AW)(e:AW):Sa (l++[e])=Sa l++WL e:=by simp[Sa]
theorem wZ{N i:Nat}{w I w2:c'}{r:Gf}{v:Value}{e:AW}{T:TypeId}{at' st:Int}{o:Obj}{g cap:Nat}(hN:N<=w.heap.size)(p:AG (fun _=>False) w I)
  (aa:I.heap[i]? = bS (.cells #[.string ⟨r.s_.toArray⟩,.int .i64 r.at_,.int .i64 r.stamp_,v] T (0,0))) (ab:i<I.heap.size) (j:N<=i) (R:v.ownBlock≠bS i) (P:∀ b,v.ownBlock=bS b->N<=b)
  (J:w2.ownsRow N 131 3 (.slice (bS ⟨g,0,cS⟩) (r.list_.length+1) cap) (r.list_.length+1) (Sa r.list_++WL e))
  (C:((I.alloc o).drew).grownBy w2 v.ownBlock) (ac:v.ownBlock=bS g∨g=I.heap.size+1) :
  oo N i w ⟨r.s_,at',st,r.list_++[e]⟩ bR (.returned (.bool bR))
   (((w2.setCell ⟨i,3,cS⟩ (.slice (bS ⟨g,0,cS⟩) (r.list_.length+1) cap)).setCell ⟨i,2,cS⟩ (.int .i64 st)).setCell ⟨i,1,cS⟩ (.int .i64 at')):=by
 have U:g≠i:=by
  rcases ac with h|h
  ·intro c;exact R (by rw[h,c])
  ·omega
 have ad:N<=I.heap.size:=Nat.le_trans hN p.size;have aj:((I.alloc o).drew).heap.size=I.heap.size+1:=by show (I.heap.push o).size=_;simp
 have h2:w2.heap[i]? = bS (.cells #[.string ⟨r.s_.toArray⟩,.int .i64 r.at_,.int .i64 r.stamp_,v] T (0,0)):=by
  rw[C.block i (by omega) (fun c=>R c.symm),← aa];exact dz I o i ab
 refine⟨rfl,?_,.slice (bS ⟨g,0,cS⟩) (r.list_.length+1) cap,?_⟩
 ·refine ((Below.setCell ?_ j _).setCell j _).setCell j _;refine Below.grown ?_ C (by omega) P;exact ((Zy p hN).alloc ad o).drew
 ·refine⟨⟨T,?_⟩,?_,?_,j⟩
  ·rw[ej _ i 1 _ T _ (ej _ i 2 _ T _ (ej _ i 3 _ T _ h2))];rfl
  ·rw[ny,List.length_append,eu];refine ea (ea (ea J ?_ _) ?_ _) ?_ _<;>(simp[dX];exact U)
  ·simp[dX];exact U
set_option maxRecDepth 100000 in
theorem tJ{N C:Nat}{w p:c'}{r:Gf}{v:Value}{q:Int×Int×AW}{tmps:Array Value}{eb:Nat}{c:Code}(hb:e4.body=bS c)(hL:LS N C w r v)(hM:AEh N C w r v q tmps p eb)
  (hN:N<=w.heap.size) (bo:r.list_.length+1<=maxLen) (ac:(r.list_.length+1)*32<=140737488355328) :
  (co 12 c).wp bI (bodyPost bI e4 (oo N C w ⟨r.s_,i64.wrap (q.1+1),q.2.1,r.list_++[q.2.2]⟩ bR)) ⟨tmps,[]⟩ p:=by
 obtain⟨au,t0,t3,t10,t9,J,P,cc⟩:=hM;have R:=ABm tmps au;simp only[fm,List.range.loop,List.map_cons,List.map_nil,t0,t3,t10,t9] at R;obtain⟨en,st,⟨d,s,x⟩⟩:=q;dsimp only at J R ⊢;rw[show i64.wrap (en+1)=wrap64 (en+1) from by rw[IntKind.wrap_i64];unfold wrap64;rfl];obtain⟨gg,ay⟩:∃ gg:Nat->Value,gg=fun i=>tmps.getD i undef:=⟨_,rfl⟩
 have ae:∀ i,tmps.getD i db=gg i:=fun i=>by rw[ay]
 simp only[ae] at R;rw[R];clear R ae ay t0 t3 t10 t9 au tmps;have bb:=hL.same P;obtain⟨⟨T,I⟩,ad,U,ax⟩:=bb;have c3:p.cell? ⟨C,3,cS⟩=bS v:=by rw[e5 p C 3 _ T (0,0) I];rfl
 have aa:=World.block_lt_of_cell? p _ c3
 have f3:p.frozen? ⟨C,3,cS⟩=bX:=by
  simp only[World.frozen?,I];rfl
 have a0:∀ o:Obj,((p.alloc o).drew).frozen? ⟨C,3,cS⟩=false:=fun o=>by
  have e:((p.alloc o).drew).heap[C]? = p.heap[C]?:=dz p o C aa;simp only[World.frozen?,e,I];rfl
 have a1:∀ o:Obj,((p.alloc o).drew).cell? ⟨C,3,cS⟩=bS v:=fun o=>by
  rw[← c3];exact GJ (dz p o C aa)
 have c2:p.cell? ⟨C,2,cS⟩=bS (.int .i64 r.stamp_):=by rw[e5 p C 2 _ T (0,0) I];rfl
 have c1:p.cell? ⟨C,1,cS⟩=bS (.int .i64 r.at_):=by rw[e5 p C 1 _ T (0,0) I];rfl
 have cA:∀ (o:Obj) (k:Nat),((p.alloc o).drew).cell? ⟨C,k,cS⟩=p.cell? ⟨C,k,cS⟩:=fun o k=>GJ (dz p o C aa)
 have fA:∀ (o:Obj) (k:Nat),((p.alloc o).drew).frozen? ⟨C,k,cS⟩=false:=fun o k=>by
  have e:((p.alloc o).drew).heap[C]? = p.heap[C]?:=dz p o C aa;simp only[World.frozen?,e,I]
  match k with
  | 0=>rfl
  | k+1=>rfl
 have a4:=d' cA;have a2:=d' fA;have b1:=d' a0;have b2:=d' a1;clear cA fA a0 a1;have b3:v.ownBlock≠bS eb:=fun e=>by have:=AFu hL.row e;omega
 have e0:p.cell? ⟨eb,0,cS⟩=bS (.int .i64 d):=J 0 _ rfl;have e1:p.cell? ⟨eb,1,cS⟩=bS (.string ⟨s.toArray⟩):=J 1 _ rfl;have e2:p.cell? ⟨eb,2,cS⟩=bS (.int .i64 x):=J 2 _ rfl;have b7:=World.block_lt_of_cell? p _ e0;obtain⟨i0,a8,a7,a6,a5⟩:=info_parts xa;generalize av:(⟨s.toArray⟩:ByteArray)=sb at e1
 have aj:=fun (g cap:Nat) (w2:c')=>wZ (e:=⟨d,s,x⟩) (at':=wrap64 (en+1)) (st:=st) (o:=.cells #[.int .i64 d,.string sb,.int .i64 x] 131) (g:=g) (cap:=cap) (w2:=w2) hN P I aa ax U (fun b hb=>by
  rcases ad.2 with⟨rfl,_⟩|⟨g,cap,cm,rfl,h,_⟩
  ·cases hb
  ·obtain rfl:g=b:=by simpa[dX] using hb
   exact h)
 have a3:=d' aj;have HB:=d' I;have HC:=d' J;have HS:=d' P;have b0:=d' av;clear I J P av hL aj hN;unfold e4 at hb;dsimp only at hb;cases hb
 dsimp only[co]
 go_wp2_with fail
 go_region_law
  ((
   refine step_append_lies _ (by rfl) _ _ _ (by rfl) N 131 i0 _ 3 32 um a8 a7 a6 a5 rfl (by omega) v r.list_.length (Sa r.list_) (by rfl) ((ad.alloc _).drew)
    ⟨p.heap.size,0,cS⟩ 1 1 [.int .i64 d,.string sb,.int .i64 x] (by rfl) (by rfl) (World.news_of_block (cs:=#[.int .i64 d,.string sb,.int .i64 x]) (t:=131) (fr:=(0,0)) (ev p _)) (by simp[Value.oneCell'])
    (by omega) bo ac (by simp;omega) (p.heap.size+1) (by simp) ?_;intro g cap w2 ab j a9 cb
   have k3:w2.cell? ⟨C,3,cS⟩=bS v:=by rw[j.cell_far _ (by simp;omega) (Ne.symm U)];exact b2.out _
   have b8:w2.frozen? ⟨C,3,cS⟩=bX:=by rw[j.frozen_far _ (by simp;omega) (Ne.symm U)];exact b1.out _
   have k2:w2.cell? ⟨C,2,cS⟩=bS (.int .i64 r.stamp_):=by rw[j.cell_far _ (by simp;omega) (Ne.symm U),a4.out];exact c2
   have b9:w2.frozen? ⟨C,2,cS⟩=bX:=by rw[j.frozen_far _ (by simp;omega) (Ne.symm U)];exact a2.out _ _
   have k1:w2.cell? ⟨C,1,cS⟩=bS (.int .i64 r.at_):=by rw[j.cell_far _ (by simp;omega) (Ne.symm U),a4.out];exact c1
   have ca:w2.frozen? ⟨C,1,cS⟩=bX:=by rw[j.frozen_far _ (by simp;omega) (Ne.symm U)];exact a2.out _ _))
 all_goals go_wp2
 all_goals
  go_ret
  exact⟨by simp,(a3.out g cap w2 (by rw[← b0.out] at ab;exact ab) j a9).2⟩
theorem mC{n:Nat}{e:AW}(h:DH (n+([e]:List AW).length) 32=bR):n+1<=maxLen∧(n+1)*32<=140737488355328:=by
 have h:=of_decide_eq_true h;simp only[eu] at h;refine⟨?_,h⟩;unfold maxLen;omega
theorem nN{N j:Nat}{w:c'}{r r':Gf}{v:Value}{b:Bool}(h:IP r=bS (b,r'))(o:LS N j w r v)(R:GT (fun _=>False) w)(p:N<=w.heap.size):
  Calls bI 177 #[.pointer (bS ⟨j,0,cS⟩)] w (oo N j w r' b):=by
 unfold IP at h;obtain⟨y,C,h⟩:=AN h;have i:∃ c,e4.body=bS c:=⟨_,rfl⟩;obtain⟨c,i⟩:=i;refine wa C o R i (fun e g w' hs h2 U=>?_) (fun q e g w' eb P=>?_)
 ·subst e;cases AR h
  have I:g.getD 2 db = .bool false:=h2;refine bodyPost_ret (results_tmp rfl _ _ _) rfl ?_;exact⟨by rw[I],Zy hs p,v,o.same hs⟩
 ·subst e;obtain⟨J,h⟩:=AO h;cases AR h
  obtain⟨T,h2⟩:=mC J;exact tJ i o P p T h2
theorem vC(w:c')(sb:ByteArray)(s:List UInt8)(h:(⟨s.toArray⟩:ByteArray)=sb){T g:TypeId}(i:T=131:=by rfl):
  LS w.heap.size (w.heap.size+1) ((w.alloc (.cells #[] T)).alloc (.cells #[.string sb,.int .i64 0,.int .i64 0,.slice (bS ⟨w.heap.size,0,cS⟩) 0 0] g)) ⟨s,0,0,[]⟩ (.slice (bS ⟨w.heap.size,0,cS⟩) 0 0):=by
 subst h;subst i;have j:(w.alloc (.cells #[] 131)).heap.size=w.heap.size+1:=by show (w.heap.push _).size=_;simp
 refine⟨⟨g,?_⟩,⟨rfl,.inr ⟨w.heap.size,0,#[],rfl,e7 _,?_,e7 _,Nat.zero_le _,rfl,rfl⟩⟩,by simp[dX],by omega⟩
 ·rw[← j];exact ev _ _
 ·rw[dz _ _ _ (by omega)];exact ev _ _
theorem Sf{w w':c'}(h:Below w.heap.size w w'):AG (fun _=>False) w w':=⟨h.os,h.tape,h.output,h.size,fun b g _=>h.block b g⟩
set_option maxRecDepth 100000 in
theorem mv{s:List UInt8}{y:Gf}(h:Hd s=bS y)(w:c')(hG:GT (fun _=>False) w):
  Calls bI 114 #[.string ⟨s.toArray⟩] w fun e w'=>∃ rb v,e = .returned (.pointer (bS ⟨rb,0,cS⟩))∧Below w.heap.size w w'∧LS w.heap.size rb w' y v:=by
 generalize P:(⟨s.toArray⟩:ByteArray)=sb;have ae:=d' P;have HG:=d' hG;have HH:=d' h;clear P hG h
 go_enter fi,Tryz.ntmps114
 go_wp2_with fail
 obtain⟨n0,U⟩:=Ik (show AE Gs (Gf.mk s 0 0 [])=bS y from HH.out)
 let J:Nat->Act->c'->Prop:=fun n a w'=>∃ r v I C,a=⟨#[dT sb,db,cI cS,cI (bS ⟨w.heap.size+1,0,cS⟩),dT sb,ef (bS ⟨w.heap.size,0,cS⟩) 0 0,
  fs #[dT sb,ek IntKind.i64 0,ek IntKind.i64 0,ef (bS ⟨w.heap.size,0,cS⟩) 0 0],cI (bS ⟨w.heap.size+1,0,cS⟩),I,C,db],[]⟩ ∧
  LS w.heap.size (w.heap.size+1) w' r v∧Below w.heap.size w w'∧Jr Gs n r=bS y
 refine wp_loop (fun a w=>∃ n,J n a w) (fun a w=>Po fun n=>J n a w) ⟨n0,Gf.mk s 0 0 [],.slice (bS ⟨w.heap.size,0,cS⟩) 0 0,db,db,rfl,vC w sb s ae.out,((Below.refl w.heap.size w).alloc (e7 _) _).alloc (by show w.heap.size<=(w.heap.push _).size;simp) _,U⟩ fun a w' hI=>?_
 have p:=(NA hI).1;revert p;generalize R:Po (fun n=>J n a w')=n;rintro⟨r,v,I,C,rfl,hL,T,hit⟩;cases n with
 | zero=>cases hit
 | succ n=>
  simp only[Jr] at hit;cases j:Gs r with
  | none=>rw[j] at hit;cases hit
  | some o=>
   rw[j] at hit;unfold Gs at j;obtain⟨⟨b,r'⟩,hb,j⟩:=AN j;have hX:=nN hb hL (HG.out.mono (Sf T) fun _ _ c=>c) T.size;cases b with
   | true=>
    cases AR j
    have HN:∀ w2 v2 I C,LS w.heap.size (w.heap.size+1) w2 r' v2->Below w.heap.size w' w2->∀ a2,a2=(⟨#[dT sb,db,cI cS,cI (bS ⟨w.heap.size+1,0,cS⟩),dT sb,ef (bS ⟨w.heap.size,0,cS⟩) 0 0,
      fs #[dT sb,ek IntKind.i64 0,ek IntKind.i64 0,ef (bS ⟨w.heap.size,0,cS⟩) 0 0],cI (bS ⟨w.heap.size+1,0,cS⟩),I,C,db],[]⟩:Act) ->
      (∃ n,J n a2 w2)∧(Po fun n=>J n a2 w2)<n+1:=fun w2 v2 I C g i a2 ha=>by
     have hJ:J n a2 w2:=⟨r',v2,I,C,ha,g,T.trans i,hit⟩;exact⟨⟨n,hJ⟩,Nat.lt_succ_of_le ((NA ⟨n,hJ⟩).2 n hJ)⟩
    have HN:=d' HN;clear hL T hit hb R hI
    go_wp2_with (go_at_call 177;refine hX.mono ?_;rintro e w2 ⟨rfl,i,v2,g⟩)
    exact HN.out w2 v2 _ _ g i _ rfl
   | false=>
    cases AR j
    cases hit
    clear hL hb R hI
    go_wp2_with (go_at_call 177;refine hX.mono ?_;rintro e w2 ⟨rfl,i,v2,g⟩)
    go_ret
    exact⟨_,rfl,T.trans i,v2,g⟩
noncomputable def vY:List AV->Rs
 | [.str s]=>match Hd s with
  | some r=>⟨bR,.mem 4 [Ec r] 0,[.any]⟩
  | none=>Rs.bad
 | _=>Rs.bad
noncomputable def Ig:Ar:=⟨[.bor],bX,vY⟩
theorem QW{s_:List UInt8}{g:Gf}(h:Hd s_=bS g):Ig.F [.str s_]=⟨bR,.mem 4 [Ec g] 0,[.any]⟩:=by
 show (match Hd s_ with
  | some r=>(⟨bR,.mem 4 [Ec r] 0,[.any]⟩:Rs)
  | none=>Rs.bad)=_
 rw[h]
theorem az:Ig.modes=[.bor]:=rfl
theorem XZ:Ig.flat=false:=rfl
attribute [go_sem] az XZ
theorem sQ{args:List AV}(h:(vY args).ok=bR):∃ s y,Hd s=bS y∧args=[.str s]:=by
 unfold vY at h;split at h
 ·rename_i s;split at h
  ·rename_i r g;exact⟨s,r,g,rfl⟩
  ·cases h
 ·cases h
theorem tX{S:Nat->Prop}{N g:Nat}{w:c'}{r:Gf}{v:Value}(h:LS N g w r v)(o:∀ b,v.ownBlock=bS b->¬ S b):IK S w g 1 4 [Ec r]:=by
 obtain⟨T,I⟩:=h.blk;have p:=dR (n:=0) h.row o;have one:∀ {i:Nat},i < [Ec r].length->i=0:=fun h=>by simpa using h
 refine⟨by omega,by simp,fun i hi=>?_,fun _=>⟨_,T,(0,0),I,.inl rfl,rfl,fun i j hi C=>?_⟩⟩
 ·cases one hi;exact⟨rfl,rfl⟩
 ·cases one hi
  match j,C with
  | 0,_=>exact .str
  | 1,_=>exact .int
  | 2,_=>exact .int
  | 3,_=>exact p
theorem YT:CF bI 114 Ig:=by
 refine⟨fun e=>fa e,fun F g0 w args vargs ao U C aa=>⟨fun e=>fa e,?_⟩⟩;obtain⟨s,y,hy,rfl⟩:=sQ aa;have h0:=GD C (i:=0) (by simp);rw[NG U];generalize vargs.getD 0 db=x at h0;cases h0
 have he:=Go.Proofs.enters_of (P:=bI) fi (by kernel_rfl) rfl;unfold DD;rw[he];rw[QW hy];refine (mv hy w (C.tab.mono (AG.refl _ _) fun _ _ c=>c.elim)).mono ?_;rintro e' w' ⟨rb,v,rfl,hB,T⟩
 have only:∀ k h,AK k [(0,(⟨4,[Ec y]⟩:Hm))]=bS h->k=0∧h=⟨4,[Ec y]⟩:=by
  intro k h p;simp only[AK,AM,beq_iff_eq] at p;split at p
  ·rename_i e;cases p;exact⟨e.symm,rfl⟩
  ·cases p
 have o:∀ b,w.heap.size<=b->¬ F b:=fun b I hF=>by have:=C.fb _ hF;omega
 have J:∀ b,v.ownBlock=bS b->w.heap.size<=b:=fun b I=>by
  rcases T.row.2 with⟨rfl,_⟩|⟨g,cap,ay,rfl,h,_⟩
  ·cases I
  ·obtain rfl:g=b:=by simpa[dX] using I
   exact h
 refine⟨_,⟨fun _=>rb,fun _=>1⟩,[(0,⟨4,[Ec y]⟩)],fun _=>0,rfl,⟨(Sf hB).mono fun _ _ c=>c.elim,fun k h p=>?_,fun k k' a b _=>?_,fun k a=>o _ T.low,fun k a=>.inl T.low,⟨rfl,rfl,rfl⟩,fun i j hi R _=>?_,fun i j _ R=>absurd R (oY rfl j),fun j R=>absurd R (oY rfl j)⟩⟩
 ·obtain⟨rfl,rfl⟩:=only k h p;refine tX T fun b I=>?_
  rintro (c|⟨k,_,e⟩)
  ·exact o b (J b I) c
  ·exact T.own (by rw[I,← e])
 ·obtain⟨⟨h,p⟩,_⟩:=a;obtain⟨⟨h',ab⟩,_⟩:=b;rw[(only k h p).1,(only k' h' ab).1]
 ·rw[hi.1,R.1]
set_option maxHeartbeats 64000000
instance i_c_spec_l27Read:Sd bI 114 Ig:=⟨YT⟩
@[go_sem]def WZ{s_:List UInt8}:=cr (fun y=>@QW s_ y)
noncomputable def AJy:Bl:=Aj bI Tryz.f63 [0,2,3,4] [] [] []
noncomputable abbrev ez:Ar:=Xl [(114,Ig)] AJy [.bor]
instance s_173:Sd bI 63 ez:=SN
attribute [local go_sem] ES in
@[go_sem]theorem AEt{s_:List UInt8}(h:(ES s_).isSome=bR):ez.F [.str s_]=⟨bR,.tup [.mem 4 [Ec ((gd (ES s_)).1)] 0,.int .i64 ((gd (ES s_)).2)],[.any]⟩:=Cj AJy trivial
theorem AKr:ez.modes=[.bor]:=rfl
theorem AIX{s_:List UInt8}{g:Gf×Int}(h:ES s_=bS g):ez.F [.str s_]=⟨bR,.tup [.mem 4 [Ec g.1] 0,.int .i64 g.2],[.any]⟩:=by
 have q:=AEt (MZ h);simp only[h,BA] at q;exact q
noncomputable def AJq:Bl:=Aj bI Tryz.f85 [0,1,3,4,5,6,7,8] [(603,16),(805,16),(806,16),(807,16)] [] []
noncomputable abbrev qy:Ar:=Cw [(63,ez),(133,fB),(134,Ha),(88,XF),(136,fD),(135,fC)] AJq [.bor,.bor]
instance s_174:Sd bI 85 qy:=Aq
attribute [local go_sem] FE in
@[go_sem]theorem AEs{log:List UInt8}{j:Int}{i:List UInt8}{g:Int}(h:(FE log (AW.mk j i g)).isSome=bR):qy.F [.str log,.agg ([.int .i64 j,.str i,.int .i64 g])]=⟨bR,.tup [.str ((gd (FE log (AW.mk j i g))).1),.int .i64 ((gd (FE log (AW.mk j i g))).2)],[.any,.any]⟩:=Cj AJq trivial
theorem AKq:qy.modes=[.bor,.bor]:=rfl
theorem AIW{log:List UInt8}{i:AW}{g:(List UInt8)×Int}(h:FE log i=bS g):qy.F [.str log,Bz i]=⟨bR,.tup [.str g.1,.int .i64 g.2],[.any,.any]⟩:=by
 have q:=AEs (MZ h);simp only[h,BA] at q;exact q
noncomputable def ADp:Bl:=Aj bI Tryz.f137 [0,1,4,5,6,7] [] [] []
noncomputable abbrev xy:Ar:=Xl [(63,ez),(131,XG)] ADp [.bor,.bor]
instance:Sd bI 137 xy:=SN
attribute [local go_sem] Iq in
@[go_sem]theorem ALP{log what:List UInt8}(h:(Iq log what).isSome=bR):xy.F [.str log,.str what]=⟨bR,.tup [.mem 4 [Ec ((gd (Iq log what)).1)] 0,.int .i64 ((gd (Iq log what)).2)],[.any,.any]⟩:=Cj ADp trivial
noncomputable def AAi:Bl:=Aj bI Tryz.f86 [0,1,4,5,6,7,8,9] [] [] [(210,64,12)]
noncomputable def cq:List (Nat×Ar):=[(137,xy)]
instance:SdL bI cq:=by unfold cq;infer_instance
noncomputable abbrev qw:Ar:=Cw cq AAi [.bor,.bor]
instance s_176:Sd bI 86 qw:=Aq
noncomputable def bM(what:List UInt8)(r:Gf):((List Int)×Int)->St
 | (out,i)=>⟨[.any,.str what,.any,.any,.ref 3200000 0 0,.any,.own 3200032,.int .i64 i],[],[(3200000,⟨4,[Ec r]⟩),(3200032,⟨1,bN (cL .i64) out⟩)],bR⟩
noncomputable def aL(what:List UInt8)(r:Gf)(y:(List Int)):FU:=(.exit 0,⟨[.any,.any,.any,.any,.any,.any,.own 3200000,.any],[],[(3200000,⟨1,bN (cL .i64) y⟩)],bR⟩)
attribute [local go_sem] GK cq bM aL in
theorem SJ{what:List UInt8}{r:Gf}{g:(List Int)×Int}{i:(List Int)}(h:AE (GK what r) g=bS i):∃ j,∀ L,j<=L->Jj cq L AAi 0 (bM what r g)=aL what r i:=LF AAi trivial
attribute [local go_sem] EO cq bM aL in
@[go_sem]theorem AEr{log what:List UInt8}(h:(EO log what).isSome=bR):qw.F [.str log,.str what]=⟨bR,.tup [.fresh 1 (bN (cL .i64) ((gd (EO log what)).1)),.int .i64 ((gd (EO log what)).2)],[.any,.any]⟩:=Cj AAi @SJ
theorem AKp:qw.modes=[.bor,.bor]:=rfl
theorem AIV{log what:List UInt8}{g:(List Int)×Int}(h:EO log what=bS g):qw.F [.str log,.str what]=⟨bR,.tup [.fresh 1 (bN (cL .i64) g.1),.int .i64 g.2],[.any,.any]⟩:=by
 have q:=AEr (MZ h);simp only[h,BA] at q;exact q
noncomputable def ADN:Bl:=Aj bI Tryz.f188 [0,2] [] [] []
noncomputable abbrev xx:Ar:=Cw [(84,RS)] ADN [.bor]
instance:Sd bI 188 xx:=Aq
attribute [local go_sem] ID in
@[go_sem]theorem ALO{n:Int}(h:(ID n).isSome=bR):xx.F [.int .i64 n]=⟨bR,.str (gd (ID n)),[.any]⟩:=Cj ADN trivial
noncomputable def ADu:Bl:=Aj bI Tryz.f128 [0,2,3] [] [] []
noncomputable abbrev ey:Ar:=Cw [(84,RS),(188,xx)] ADu [.bor]
instance s_178:Sd bI 128 ey:=Aq
attribute [local go_sem] CY in
@[go_sem]theorem AEq{m:Int}(h:(CY m).isSome=bR):ey.F [.int .i64 m]=⟨bR,.str (gd (CY m)),[.any]⟩:=Cj ADu trivial
theorem AKo:ey.modes=[.bor]:=rfl
theorem ie{m:Int}{g:(List UInt8)}(h:CY m=bS g):ey.F [.int .i64 m]=⟨bR,.str g,[.any]⟩:=by
 have q:=AEq (MZ h);simp only[h,BA] at q;exact q
noncomputable def AAk:Bl:=Aj bI Tryz.f82 [0,2,3,4,5] [(605,16)] [] [(13,4,2)]
noncomputable def cp:List (Nat×Ar):=[(84,RS),(128,ey)]
instance:SdL bI cp:=by unfold cp;infer_instance
noncomputable abbrev qv:Ar:=Cw cp AAk [.bor]
instance s_179:Sd bI 82 qv:=Aq
noncomputable def bL(g:List AA):((List UInt8)×Int)->St
 | (out,i)=>⟨[.sl 5 (bN AC g),.any,.own 3200000,.int .i64 i,.any],[],[(3200000,⟨1,bN Fm out⟩)],bR⟩
noncomputable def aK(g:List AA)(y:(List UInt8)):FU:=(.exit 0,⟨[.any,.any,.own 3200000,.any,.any],[],[(3200000,⟨1,bN Fm y⟩)],bR⟩)
attribute [local go_sem] JG cp bL aK in
theorem Su{g:List AA}{i:(List UInt8)×Int}{j:(List UInt8)}(h:AE (JG g) i=bS j):∃ o,∀ L,o<=L->Jj cp L AAk 0 (bL g i)=aK g j:=LF AAk trivial
attribute [local go_sem] FB cp bL aK in
@[go_sem]theorem AEp{g:List AA}(h:(FB g).isSome=bR):qv.F [.sl 5 (bN AC g)]=⟨bR,.str (gd (FB g)),[.any]⟩:=Cj AAk @Su
theorem AKn:qv.modes=[.bor]:=rfl
theorem AIU{g:List AA}{i:(List UInt8)}(h:FB g=bS i):qv.F [.sl 5 (bN AC g)]=⟨bR,.str i,[.any]⟩:=by
 have q:=AEp (MZ h);simp only[h,BA] at q;exact q
noncomputable def AKB:Bl:=Aj bI Tryz.f44 [0,2,3,16] [] [] []
noncomputable abbrev qu:Ar:=Cw [] AKB [.bor]
instance s_180:Sd bI 44 qu:=Aq
attribute [local go_sem] Bu in
@[go_sem]theorem AEo{g:List UInt8}(h:(Bu g).isSome=bR):qu.F [.str g]=⟨bR,.str (gd (Bu g)),[.any]⟩:=Cj AKB trivial
theorem AKm:qu.modes=[.bor]:=rfl
theorem AIT{g:List UInt8}{i:(List UInt8)}(h:Bu g=bS i):qu.F [.str g]=⟨bR,.str i,[.any]⟩:=by
 have q:=AEo (MZ h);simp only[h,BA] at q;exact q
noncomputable def nX:Bl:=Aj bI Tryz.f77 [0,2,3,4,5,6,7,8,9] [] [] [(361,97,6)]
noncomputable def Fq:List (Nat×Ar):=[(18,Zq),(76,Zp),(75,OO),(126,lm),(127,Zr),(128,ey)]
instance:SdL bI Fq:=by unfold Fq;infer_instance
noncomputable abbrev li:Ar:=Cw Fq nX [.bor]
instance s_181:Sd bI 77 li:=Aq
noncomputable def VM(s_:List UInt8)(w:List (List UInt8))(g:Bool):(Int×Int)->St
 | (n,i)=>⟨[.str s_,.any,.any,.own 3200000,.any,.bool g,.int .i64 n,.any,.int .i64 i],[],[(3200000,⟨1,bN e3 w⟩)],bR⟩
noncomputable def Uy(s_:List UInt8)(w:List (List UInt8))(g:Bool):(Int⊕(Int×Bool))->FU
 | .inl y=>(.exit 0,⟨[.str s_,.any,.any,.any,.any,.bool g,.int .i64 y,.any,.any],[],[],bR⟩)
 | .inr y=>(.ret,⟨[.any,.int .i64 y.1,.bool y.2,.any,.any,.any,.any,.any,.any],[],[],bR⟩)
attribute [local go_sem] Cn Fq VM Uy in
theorem Sx{s_:List UInt8}{w:List (List UInt8)}{g:Bool}{i:Int×Int}{j:Int⊕(Int×Bool)}(h:AE (Cn s_ w g) i=bS j):∃ o,∀ L,o<=L->Jj Fq L nX 0 (VM s_ w g i)=Uy s_ w g j:=LF nX trivial
noncomputable def bK(s_:List UInt8)(w:List (List UInt8))(g:Bool):(Int×Int)->St
 | (n,i)=>⟨[.str s_,.any,.any,.own 3200000,.any,.bool g,.int .i64 n,.any,.int .i64 i],[],[(3200000,⟨1,bN e3 w⟩)],bR⟩
noncomputable def aJ(s_:List UInt8)(w:List (List UInt8))(g:Bool):(Int⊕(Int×Bool))->FU
 | .inl y=>(.exit 0,⟨[.str s_,.any,.any,.any,.any,.bool g,.int .i64 y,.any,.any],[],[],bR⟩)
 | .inr y=>(.ret,⟨[.any,.int .i64 y.1,.bool y.2,.any,.any,.any,.any,.any,.any],[],[],bR⟩)
attribute [local go_sem] Kd Fq bK aJ VM Uy in
theorem NS{s_:List UInt8}{w:List (List UInt8)}{g:Bool}{i:Int×Int}{j:Int⊕(Int×Bool)}(h:AE (Kd s_ w g) i=bS j):∃ o,∀ L,o<=L->Jj Fq L nX 0 (bK s_ w g i)=aJ s_ w g j:=LF nX trivial
attribute [local go_sem] VM Uy bK aJ in
theorem AIq{s_:List UInt8}{y_:Int×Bool}(h:CZ s_=bS y_):li.F [.str s_]=⟨bR,.tup [.int .i64 y_.1,.bool y_.2],[.any]⟩:=by
 have aa:nX=nX:=rfl
 conv at aa=>rhs;cbv
 refine pY rfl ?_;dsimp only[CZ] at h;obtain⟨c7,z1,h⟩:=AN h;have fz1:=ox z1;try simp only[go_sem] at fz1
 obtain⟨I,h⟩:=AO h;rcases EX I with⟨g,I⟩|g
 ·try simp only[go_sem,n1,n2,n3,n4] at g
  all_goals
  have ax:=GX I;have ay:=BX e3 c7 ax;try simp only[go_sem] at ax
  try simp only[go_sem] at ay
  try simp only[go_sem,n1,n2,n3,n4,g] at I
  all_goals
  rcases Ab h with⟨C,h⟩|⟨C,h⟩
  ·try simp only[go_sem,n1,n2,n3,n4,g,I] at C
   all_goals
   obtain rfl:=AR h;refine⟨0,fun L hL=>?_⟩;simp only[go_sem,aa,Fq,fz1,g,I,ax,ay,C]
  ·try simp only[go_sem,n1,n2,n3,n4,g,I] at C
   all_goals
   obtain⟨J,h⟩:=AO h;have a0:=GX J;have a3:=BX e3 c7 a0;try simp only[go_sem] at a0
   try simp only[go_sem] at a3
   try simp only[go_sem,n1,n2,n3,n4,g,I,C] at J
   all_goals
   obtain⟨U,h⟩:=AO h;rcases EX U with⟨i,U⟩|i
   ·try simp only[go_sem,n1,n2,n3,n4,g,I,C,J] at i
    all_goals
    try simp only[go_sem,n1,n2,n3,n4,g,I,C,J,i] at U
    all_goals
    rcases Ab h with⟨P,h⟩|⟨P,h⟩
    ·try simp only[go_sem,n1,n2,n3,n4,g,I,C,J,i,U] at P
     all_goals
     obtain⟨z7,h⟩:=AO h;try simp only[go_sem,n1,n2,n3,n4,g,I,C,J,i,U,P] at z7
     all_goals
     obtain⟨d7,z8,h⟩:=AN h;have b4:=Wf z8;try simp only[go_sem,g,I,C,J,i,U,P,z7] at b4
     obtain⟨z9,h⟩:=AO h;rcases EX z9 with⟨ae,z9⟩|ae
     ·try simp only[go_sem,n1,n2,n3,n4,g,I,C,J,i,U,P,z7] at ae
      all_goals
      obtain⟨d6,au⟩:=zX z9;have b6:=ij au;try simp only[go_sem,n1,n2,n3,n4,g,I,C,J,i,U,P,z7,ae] at au
      all_goals
      try simp only[go_sem,g,I,C,J,i,U,P,z7,ae] at b6
      rcases Ab h with⟨ad,h⟩|⟨ad,h⟩
      ·try simp only[go_sem,n1,n2,n3,n4,g,I,C,J,i,U,P,z7,ae,au] at ad
       all_goals
       obtain rfl:=AR h;refine⟨0,fun L hL=>?_⟩;simp only[go_sem,aa,Fq,fz1,g,I,ax,ay,C,J,a0,a3,i,U,P,z7,b4,ae,au,b6,ad]
      ·try simp only[go_sem,n1,n2,n3,n4,g,I,C,J,i,U,P,z7,ae,au] at ad
       all_goals
       obtain⟨c6,df,h⟩:=AN h;obtain⟨b8,av⟩:=Sx df;rcases c6 with dw|ds
       ·dsimp only at h;obtain⟨d1,dc,h⟩:=AN h;have b7:=ig dc;try simp only[go_sem,g,I,C,J,i,U,P,z7,ae,au,ad] at b7
        obtain⟨cd,h⟩:=AO h;rcases EX cd with⟨a6,cd⟩|a6
        ·try simp only[go_sem,n1,n2,n3,n4,g,I,C,J,i,U,P,z7,ae,au,ad] at a6
         all_goals
         obtain⟨d0,bo⟩:=zX cd;have b9:=ie bo;try simp only[go_sem,n1,n2,n3,n4,g,I,C,J,i,U,P,z7,ae,au,ad,a6] at bo
         all_goals
         try simp only[go_sem,g,I,C,J,i,U,P,z7,ae,au,ad,a6] at b9
         rcases Ab h with⟨a9,h⟩|⟨a9,h⟩
         all_goals
         try simp only[go_sem,n1,n2,n3,n4,g,I,C,J,i,U,P,z7,ae,au,ad,a6,bo] at a9
         all_goals
         obtain rfl:=AR h;refine⟨b8,fun L hL=>?_⟩;have av:=av L (by omega);try simp only[go_sem,aa,Fq,g,I,C,J,i,U,P,z7,ae,au,ad,a6,bo,a9] at av
         simp only[go_sem,aa,Fq,fz1,g,I,ax,ay,C,J,a0,a3,i,U,P,z7,b4,ae,au,b6,ad,b7,a6,bo,b9,a9,av]
        ·have cm:=Nu a6;have a4:=SM cm;try simp only[go_sem,n1,n2,n3,n4,g,I,C,J,i,U,P,z7,ae,au,ad] at a4
         all_goals
         rcases Ab h with⟨a9,h⟩|⟨a9,h⟩
         ·try simp only[go_sem,n1,n2,n3,n4,g,I,C,J,i,U,P,z7,ae,au,ad,a4] at a9
          all_goals
          obtain rfl:=AR h;refine⟨b8,fun L hL=>?_⟩;have av:=av L (by omega);try simp only[go_sem,aa,Fq,g,I,C,J,i,U,P,z7,ae,au,ad,a4,a9] at av
          simp only[go_sem,aa,Fq,fz1,g,I,ax,ay,C,J,a0,a3,i,U,P,z7,b4,ae,au,b6,ad,b7,a4,a9,av]
         ·try simp only[go_sem,n1,n2,n3,n4,g,I,C,J,i,U,P,z7,ae,au,ad,a4] at a9
          all_goals
          (simp_all)
       ·dsimp only at h;obtain rfl:=AR h;refine⟨b8,fun L hL=>?_⟩;have av:=av L (by omega);try simp only[go_sem,aa,Fq,g,I,C,J,i,U,P,z7,ae,au,ad] at av
        simp only[go_sem,aa,Fq,fz1,g,I,ax,ay,C,J,a0,a3,i,U,P,z7,b4,ae,au,b6,ad,av]
     ·have c8:=Nu ae;have bb:=SM c8;try simp only[go_sem,n1,n2,n3,n4,g,I,C,J,i,U,P,z7] at bb
      all_goals
      rcases Ab h with⟨ad,h⟩|⟨ad,h⟩
      ·try simp only[go_sem,n1,n2,n3,n4,g,I,C,J,i,U,P,z7,bb] at ad
       all_goals
       obtain rfl:=AR h;refine⟨0,fun L hL=>?_⟩;simp only[go_sem,aa,Fq,fz1,g,I,ax,ay,C,J,a0,a3,i,U,P,z7,b4,bb,ad]
      ·try simp only[go_sem,n1,n2,n3,n4,g,I,C,J,i,U,P,z7,bb] at ad
       all_goals
       (simp_all)
    ·try simp only[go_sem,n1,n2,n3,n4,g,I,C,J,i,U] at P
     all_goals
     obtain⟨c5,cc,h⟩:=AN h;have ao:=Wf cc;try simp only[go_sem,g,I,C,J,i,U,P] at ao
     obtain⟨b1,h⟩:=AO h;rcases EX b1 with⟨j,b1⟩|j
     ·try simp only[go_sem,n1,n2,n3,n4,g,I,C,J,i,U,P] at j
      all_goals
      obtain⟨ct,o⟩:=zX b1;have a2:=ij o;try simp only[go_sem,n1,n2,n3,n4,g,I,C,J,i,U,P,j] at o
      all_goals
      try simp only[go_sem,g,I,C,J,i,U,P,j] at a2
      rcases Ab h with⟨p,h⟩|⟨p,h⟩
      ·try simp only[go_sem,n1,n2,n3,n4,g,I,C,J,i,U,P,j,o] at p
       all_goals
       obtain rfl:=AR h;refine⟨0,fun L hL=>?_⟩;simp only[go_sem,aa,Fq,fz1,g,I,ax,ay,C,J,a0,a3,i,U,P,ao,j,o,a2,p]
      ·try simp only[go_sem,n1,n2,n3,n4,g,I,C,J,i,U,P,j,o] at p
       all_goals
       obtain⟨b5,cb,h⟩:=AN h;obtain⟨a8,R⟩:=NS cb;rcases b5 with cl|cf
       ·dsimp only at h;obtain⟨cs,ca,h⟩:=AN h;have a7:=ig ca;try simp only[go_sem,g,I,C,J,i,U,P,j,o,p] at a7
        obtain⟨b0,h⟩:=AO h;rcases EX b0 with⟨ab,b0⟩|ab
        ·try simp only[go_sem,n1,n2,n3,n4,g,I,C,J,i,U,P,j,o,p] at ab
         all_goals
         obtain⟨cn,a1⟩:=zX b0;have bs:=ie a1;try simp only[go_sem,n1,n2,n3,n4,g,I,C,J,i,U,P,j,o,p,ab] at a1
         all_goals
         try simp only[go_sem,g,I,C,J,i,U,P,j,o,p,ab] at bs
         rcases Ab h with⟨aj,h⟩|⟨aj,h⟩
         all_goals
         try simp only[go_sem,n1,n2,n3,n4,g,I,C,J,i,U,P,j,o,p,ab,a1] at aj
         all_goals
         obtain rfl:=AR h;refine⟨a8,fun L hL=>?_⟩;have R:=R L (by omega);try simp only[go_sem,aa,Fq,g,I,C,J,i,U,P,j,o,p,ab,a1,aj] at R
         simp only[go_sem,aa,Fq,fz1,g,I,ax,ay,C,J,a0,a3,i,U,P,ao,j,o,a2,p,a7,ab,a1,bs,aj,R]
        ·have b2:=Nu ab;have T:=SM b2;try simp only[go_sem,n1,n2,n3,n4,g,I,C,J,i,U,P,j,o,p] at T
         all_goals
         rcases Ab h with⟨aj,h⟩|⟨aj,h⟩
         ·try simp only[go_sem,n1,n2,n3,n4,g,I,C,J,i,U,P,j,o,p,T] at aj
          all_goals
          obtain rfl:=AR h;refine⟨a8,fun L hL=>?_⟩;have R:=R L (by omega);try simp only[go_sem,aa,Fq,g,I,C,J,i,U,P,j,o,p,T,aj] at R
          simp only[go_sem,aa,Fq,fz1,g,I,ax,ay,C,J,a0,a3,i,U,P,ao,j,o,a2,p,a7,T,aj,R]
         ·try simp only[go_sem,n1,n2,n3,n4,g,I,C,J,i,U,P,j,o,p,T] at aj
          all_goals
          (simp_all)
       ·dsimp only at h;obtain rfl:=AR h;refine⟨a8,fun L hL=>?_⟩;have R:=R L (by omega);try simp only[go_sem,aa,Fq,g,I,C,J,i,U,P,j,o,p] at R
        simp only[go_sem,aa,Fq,fz1,g,I,ax,ay,C,J,a0,a3,i,U,P,ao,j,o,a2,p,R]
     ·have b3:=Nu j;have ac:=SM b3;try simp only[go_sem,n1,n2,n3,n4,g,I,C,J,i,U,P] at ac
      all_goals
      rcases Ab h with⟨p,h⟩|⟨p,h⟩
      ·try simp only[go_sem,n1,n2,n3,n4,g,I,C,J,i,U,P,ac] at p
       all_goals
       obtain rfl:=AR h;refine⟨0,fun L hL=>?_⟩;simp only[go_sem,aa,Fq,fz1,g,I,ax,ay,C,J,a0,a3,i,U,P,ao,ac,p]
      ·try simp only[go_sem,n1,n2,n3,n4,g,I,C,J,i,U,P,ac] at p
       all_goals
       (simp_all)
   ·try simp only[go_sem,n1,n2,n3,n4,g,I,C,J] at i
    all_goals
    rcases Ab h with⟨P,h⟩|⟨P,h⟩
    ·try simp only[go_sem,n1,n2,n3,n4,g,I,C,J,i] at P
     all_goals
     (simp_all)
    ·try simp only[go_sem,n1,n2,n3,n4,g,I,C,J,i] at P
     all_goals
     obtain⟨c5,cc,h⟩:=AN h;have ao:=Wf cc;try simp only[go_sem,g,I,C,J,i,P] at ao
     obtain⟨b1,h⟩:=AO h;rcases EX b1 with⟨j,b1⟩|j
     ·try simp only[go_sem,n1,n2,n3,n4,g,I,C,J,i,P] at j
      all_goals
      obtain⟨ct,o⟩:=zX b1;have a2:=ij o;try simp only[go_sem,n1,n2,n3,n4,g,I,C,J,i,P,j] at o
      all_goals
      try simp only[go_sem,g,I,C,J,i,P,j] at a2
      rcases Ab h with⟨p,h⟩|⟨p,h⟩
      ·try simp only[go_sem,n1,n2,n3,n4,g,I,C,J,i,P,j,o] at p
       all_goals
       obtain rfl:=AR h;refine⟨0,fun L hL=>?_⟩;simp only[go_sem,aa,Fq,fz1,g,I,ax,ay,C,J,a0,a3,i,P,ao,j,o,a2,p]
      ·try simp only[go_sem,n1,n2,n3,n4,g,I,C,J,i,P,j,o] at p
       all_goals
       obtain⟨b5,cb,h⟩:=AN h;obtain⟨a8,R⟩:=NS cb;rcases b5 with cl|cf
       ·dsimp only at h;obtain⟨cs,ca,h⟩:=AN h;have a7:=ig ca;try simp only[go_sem,g,I,C,J,i,P,j,o,p] at a7
        obtain⟨b0,h⟩:=AO h;rcases EX b0 with⟨ab,b0⟩|ab
        ·try simp only[go_sem,n1,n2,n3,n4,g,I,C,J,i,P,j,o,p] at ab
         all_goals
         obtain⟨cn,a1⟩:=zX b0;have bs:=ie a1;try simp only[go_sem,n1,n2,n3,n4,g,I,C,J,i,P,j,o,p,ab] at a1
         all_goals
         try simp only[go_sem,g,I,C,J,i,P,j,o,p,ab] at bs
         rcases Ab h with⟨aj,h⟩|⟨aj,h⟩
         all_goals
         try simp only[go_sem,n1,n2,n3,n4,g,I,C,J,i,P,j,o,p,ab,a1] at aj
         all_goals
         obtain rfl:=AR h;refine⟨a8,fun L hL=>?_⟩;have R:=R L (by omega);try simp only[go_sem,aa,Fq,g,I,C,J,i,P,j,o,p,ab,a1,aj] at R
         simp only[go_sem,aa,Fq,fz1,g,I,ax,ay,C,J,a0,a3,i,P,ao,j,o,a2,p,a7,ab,a1,bs,aj,R]
        ·have b2:=Nu ab;have T:=SM b2;try simp only[go_sem,n1,n2,n3,n4,g,I,C,J,i,P,j,o,p] at T
         all_goals
         rcases Ab h with⟨aj,h⟩|⟨aj,h⟩
         ·try simp only[go_sem,n1,n2,n3,n4,g,I,C,J,i,P,j,o,p,T] at aj
          all_goals
          obtain rfl:=AR h;refine⟨a8,fun L hL=>?_⟩;have R:=R L (by omega);try simp only[go_sem,aa,Fq,g,I,C,J,i,P,j,o,p,T,aj] at R
          simp only[go_sem,aa,Fq,fz1,g,I,ax,ay,C,J,a0,a3,i,P,ao,j,o,a2,p,a7,T,aj,R]
         ·try simp only[go_sem,n1,n2,n3,n4,g,I,C,J,i,P,j,o,p,T] at aj
          all_goals
          (simp_all)
       ·dsimp only at h;obtain rfl:=AR h;refine⟨a8,fun L hL=>?_⟩;have R:=R L (by omega);try simp only[go_sem,aa,Fq,g,I,C,J,i,P,j,o,p] at R
        simp only[go_sem,aa,Fq,fz1,g,I,ax,ay,C,J,a0,a3,i,P,ao,j,o,a2,p,R]
     ·have b3:=Nu j;have ac:=SM b3;try simp only[go_sem,n1,n2,n3,n4,g,I,C,J,i,P] at ac
      all_goals
      rcases Ab h with⟨p,h⟩|⟨p,h⟩
      ·try simp only[go_sem,n1,n2,n3,n4,g,I,C,J,i,P,ac] at p
       all_goals
       obtain rfl:=AR h;refine⟨0,fun L hL=>?_⟩;simp only[go_sem,aa,Fq,fz1,g,I,ax,ay,C,J,a0,a3,i,P,ao,ac,p]
      ·try simp only[go_sem,n1,n2,n3,n4,g,I,C,J,i,P,ac] at p
       all_goals
       (simp_all)
 ·have c9:=Nu g;have be:=SM c9;try simp only[go_sem,n1,n2,n3,n4] at be
  all_goals
  rcases Ab h with⟨C,h⟩|⟨C,h⟩
  ·try simp only[go_sem,n1,n2,n3,n4,be] at C
   all_goals
   obtain rfl:=AR h;refine⟨0,fun L hL=>?_⟩;simp only[go_sem,aa,Fq,fz1,be,C]
  ·try simp only[go_sem,n1,n2,n3,n4,be] at C
   all_goals
   (simp_all)
@[go_sem]theorem AEn{s_:List UInt8}(h:(CZ s_).isSome=bR):li.F [.str s_]=⟨bR,.tup [.int .i64 ((gd (CZ s_)).1),.bool ((gd (CZ s_)).2)],[.any]⟩:=by obtain⟨y,e⟩:=isX h;have q:=AIq e;simpa only[e,BA] using q
theorem AKl:li.modes=[.bor]:=rfl
theorem AIS{s_:List UInt8}{g:Int×Bool}(h:CZ s_=bS g):li.F [.str s_]=⟨bR,.tup [.int .i64 g.1,.bool g.2],[.any]⟩:=by
 have q:=AEn (MZ h);simp only[h,BA] at q;exact q
noncomputable def AGY:Bl:=Aj bI Tryz.f43 [0,2,3] [] [] []
noncomputable abbrev lh:Ar:=Cw [(75,OO)] AGY [.bor]
instance s_182:Sd bI 43 lh:=Aq
theorem AIp{g:Int}{I:(List UInt8)}(h:FD g=bS I):lh.F [.int .i64 g]=⟨bR,.str I,[.any]⟩:=by
 have j:AGY=AGY:=rfl
 conv at j=>rhs;cbv
 refine pY rfl ?_;dsimp only[FD] at h;obtain⟨P,J,h⟩:=AN h;have fz1:=ij J;try simp only[go_sem] at fz1
 rcases Ab h with⟨o,h⟩|⟨o,h⟩
 ·try simp only[go_sem,n1,n2,n3,n4] at o
  all_goals
  obtain rfl:=AR h;refine⟨0,fun L R=>?_⟩;simp only[go_sem,j,fz1,o]
 ·try simp only[go_sem,n1,n2,n3,n4] at o
  all_goals
  obtain⟨C,h⟩:=AO h;have i:=GX C;have p:=BX e3 ([([111,107]:List UInt8),([105,110,118,97,108,105,100]:List UInt8),([114,97,110,103,101]:List UInt8),([110,111,116,45,102,111,117,110,100]:List UInt8),([101,120,105,115,116,115]:List UInt8),([102,117,108,108]:List UInt8),([115,116,97,116,101]:List UInt8),([115,121,110,116,97,120]:List UInt8),([102,111,114,109,97,116]:List UInt8),([99,108,97,115,104]:List UInt8),([99,108,111,117,100,121]:List UInt8)]:List (List UInt8)) i;try simp only[go_sem] at i
  try simp only[go_sem] at p
  try simp only[go_sem,n1,n2,n3,n4,o] at C
  all_goals
  obtain rfl:=AR h;refine⟨0,fun L R=>?_⟩;simp only[go_sem,j,fz1,o,C,i,p]
@[go_sem]theorem AEm{g:Int}(h:(FD g).isSome=bR):lh.F [.int .i64 g]=⟨bR,.str (gd (FD g)),[.any]⟩:=by obtain⟨y,e⟩:=isX h;have q:=AIp e;simpa only[e,BA] using q
theorem AKk:lh.modes=[.bor]:=rfl
theorem AIR{g:Int}{i:(List UInt8)}(h:FD g=bS i):lh.F [.int .i64 g]=⟨bR,.str i,[.any]⟩:=by
 have q:=AEm (MZ h);simp only[h,BA] at q;exact q
noncomputable def AKD:Bl:=Aj bI Tryz.f17 [0] [] [] []
noncomputable abbrev qt:Ar:=Xl [] AKD []
instance s_183:Sd bI 17 qt:=SN
attribute [local go_sem] Jl in
@[go_sem]theorem AEl  (h:(Jl).isSome=bR):qt.F []=⟨bR,EL (gd (Jl)),[]⟩:=Cj AKD trivial
theorem AKj:qt.modes=[]:=rfl
theorem AIQ{g:Bp}(h:Jl=bS g):qt.F []=⟨bR,EL g,[]⟩:=by
 have q:=AEl (MZ h);simp only[h,BA] at q;exact q
noncomputable def AJt:Bl:=Aj bI Tryz.f79 [0,2] [(105,16),(112,16)] [] []
noncomputable abbrev qs:Ar:=Cw [(84,RS)] AJt [.bor]
instance s_184:Sd bI 79 qs:=Aq
attribute [local go_sem] ER in
@[go_sem]theorem AEk{i:List Star}{g:List AA}{j:List UInt8}(h:(ER (Bp.mk i g j)).isSome=bR):qs.F [.ptr 3 [(.agg ([.sl 5 (bN Ao i),.sl 5 (bN AC g),.str j]))] 0 0]=⟨bR,.str (gd (ER (Bp.mk i g j))),[.any]⟩:=Cj AJt trivial
theorem AKi:qs.modes=[.bor]:=rfl
theorem AIP{d:Bp}{g:(List UInt8)}(h:ER d=bS g):qs.F [.ptr 3 [EL d] 0 0]=⟨bR,.str g,[.any]⟩:=by
 have q:=AEk (MZ h);simp only[h,BA] at q;exact q
noncomputable def AAt:Bl:=Aj bI Tryz.f22 [0,2,3,4] [] [] [(13,4,2)]
noncomputable def pE:List (Nat×Ar):=[]
instance:SdL bI pE:=SdL0
noncomputable abbrev qr:Ar:=Cw pE AAt [.bor]
instance s_185:Sd bI 22 qr:=Aq
noncomputable def bJ(g:List (List UInt8)):((List UInt8)×Int)->St
 | (out,i)=>⟨[.sl 1 (bN e3 g),.any,.own 3200000,.int .i64 i],[],[(3200000,⟨1,bN Fm out⟩)],bR⟩
noncomputable def aI(g:List (List UInt8))(y:(List UInt8)):FU:=(.exit 0,⟨[.any,.any,.own 3200000,.any],[],[(3200000,⟨1,bN Fm y⟩)],bR⟩)
attribute [local go_sem] En bJ aI in
theorem SG{g:List (List UInt8)}{i:(List UInt8)×Int}{j:(List UInt8)}(h:AE (En g) i=bS j):∃ o,∀ L,o<=L->Jj pE L AAt 0 (bJ g i)=aI g j:=LF AAt trivial
attribute [local go_sem] GE pE bJ aI in
@[go_sem]theorem AEj{g:List (List UInt8)}(h:(GE g).isSome=bR):qr.F [.sl 1 (bN e3 g)]=⟨bR,.str (gd (GE g)),[.any]⟩:=Cj AAt @SG
theorem AKh:qr.modes=[.bor]:=rfl
theorem AIO{g:List (List UInt8)}{i:(List UInt8)}(h:GE g=bS i):qr.F [.sl 1 (bN e3 g)]=⟨bR,.str i,[.any]⟩:=by
 have q:=AEj (MZ h);simp only[h,BA] at q;exact q
noncomputable def AAh:Bl:=Aj bI Tryz.f87 [0,2,3,4] [] [] [(13,4,2)]
noncomputable def pD:List (Nat×Ar):=[]
instance:SdL bI pD:=SdL0
noncomputable abbrev qq:Ar:=Cw pD AAh [.bor]
instance s_186:Sd bI 87 qq:=Aq
noncomputable def bH(g:List Int):(Int×Int)->St
 | (j,i)=>⟨[.sl 1 (bN (cL .i64) g),.any,.int .i64 j,.int .i64 i],[],[],bR⟩
noncomputable def aH(g:List Int)(y:Int):FU:=(.exit 0,⟨[.any,.any,.int .i64 y,.any],[],[],bR⟩)
attribute [local go_sem] NR bH aH in
theorem Tp{g:List Int}{i:Int×Int}{j:Int}(h:AE (NR g) i=bS j):∃ o,∀ L,o<=L->Jj pD L AAh 0 (bH g i)=aH g j:=LF AAh trivial
attribute [local go_sem] Il pD bH aH in
@[go_sem]theorem AEi{g:List Int}(h:(Il g).isSome=bR):qq.F [.sl 1 (bN (cL .i64) g)]=⟨bR,.int .i64 (gd (Il g)),[.any]⟩:=Cj AAh @Tp
theorem AKg:qq.modes=[.bor]:=rfl
theorem AIN{g:List Int}{i:Int}(h:Il g=bS i):qq.F [.sl 1 (bN (cL .i64) g)]=⟨bR,.int .i64 i,[.any]⟩:=by
 have q:=AEi (MZ h);simp only[h,BA] at q;exact q
