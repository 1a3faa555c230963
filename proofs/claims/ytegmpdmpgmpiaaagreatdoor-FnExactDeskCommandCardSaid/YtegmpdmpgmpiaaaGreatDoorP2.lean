/- Lemmas. No condition. -/
import Derived.Test.YtegmpdmpgmpiaaaGreatDoorP1
open Array renaming getElem?_eq_getElem->cI,empty_append->hE,append_empty->hG,all_eq_true->hN,size_setIfInBounds->iS,any_eq_true->jn,getElem?_eq_none->kn
open Bool renaming true->bI,false->bX,not_eq_true'->cA,or_eq_true->d',and_right_comm->iB,false_ne_true->j9,eq_false_iff->k3,not_true->k9,false_or->kb,and_true->kc
open Go renaming World->cS,Program->eo,execOp->fm,Deferred->hV,undef->hY,Oper->j6,yielded->kA,Operand->ln,FuncId->lu,callFunc->lJ,Exit->m'
open Go.Oper renaming upon_value->hD
open Go.Proofs.YtegmpdmpgmpiaaaGreatDoor renaming freezeAll->et,baT->hL,slots->j7,freezeH->k7,gdE->kf,keepS->l7,killAll->ml,dtE->mn
open Go.Proofs.YtegmpdmpgmpiaaaGreatDoor.AD renaming refl->dU
open Go.Region renaming wanted->iR,ready->k8
open List renaming map_congr_left->bN,all_eq_true->bR,mem_append->bS,getD_cons_succ->dT,getElem_mem->e5,mem_cons->eL,range->fu,mem_map->fB,isEmpty_iff->fI,any_eq_true->h8,getD_cons_zero->hA,getElem?_eq_none->hP,getElem?_set_ne->hW,foldl_cons->hX,flatMap_append->hZ,pairwise_cons->iN,length_erase_of_mem->iZ,all_cons->j0,mem_filter->j3,mem_of_getElem?->j4,mem_cons_of_mem->j5,mem_singleton->j8,any_eq_false->k1,mem_flatMap->k4,eq_nil_iff_forall_not_mem->k5,length_eq_zero_iff->ke,getElem?_set_self->kp,mem_of_mem_erase->kR,contains_eq_mem->l3,length_append->l5,foldl_append->lg,length_cons->lv,flatMap_def->lz,set_comm->l',map_set->me
open List.Perm renaming refl->j1
open Nat renaming lt_or_ge->hO,sub_self->j2,add_sub_cancel->jm,le_refl->k6,zero_mul->kB,zero_add->kI,eq_zero_or_pos->lb,add_comm->mu
open Option renaming some->cB,none->fA,isNone_iff_eq_none->iI,getD_some->l4,map_some->l8
open Option.some renaming injEq->fs
set_option linter.defProp false
set_option linter.unusedSimpArgs false
set_option linter.unusedVariables false
noncomputable section
namespace Go.Proofs.YtegmpdmpgmpiaaaGreatDoor
open Go Go.RowKit
def lG(vm ss:List Nat)(sz:Nat):Op->Bool
 |.move y=>Bb vm ss y (.c .nilsl)&&decide (1<=sz)
 |.assign y=>Bb vm ss y (.c .nilsl)&&decide (1<=sz)
 |_=>bX
def Pj(P:eo)(vm ss:List Nat)(op:Op):KW->Bool
 |.mov x=>AMd vm ss x op
 |.newnil sz=>lG vm ss sz op
 |.alloc z=>sJ P z op
 |.box x=>AMi vm ss x op
 |.build z ps=>sI P vm ss z ps op
 |.mkSl sz z n ps=>ADI P vm ss sz z n ps op
 |.load agg sz p=>ADL P vm ss agg sz p op
 |.nilck x=>sG vm ss x op
 |.bin bl u x y=>AMj P vm ss bl u x y op
 |.eqA neg ks x y=>AMh P vm ss neg ks x y op
 |.un u x=>cUn vm ss u x op
 |.conv k x=>ADM P vm ss k x op
 |.b2s x=>AMk P vm ss x op
 |.s2b x=>AMc P vm ss x op
 |.mkFn f fi ca=>ADJ vm ss f fi ca op
 |.make sz bytes z l c=>ADK P vm ss sz bytes z l c op&&decide (1<=sz)
 |.slice sz x lo hi=>sF P vm ss sz x lo hi op
 |.fldAddr off p=>bw P vm ss off p op
 |.fld agg off sz x=>AMf P vm ss agg off sz x op
 |.ixAddr sz x i=>lH P vm ss sz x i op
 |.ixStr x i=>sH P vm ss x i op
 |.ext x i=>AMg vm ss x i op
 |.len st x=>AMe P vm ss st x op
 |.minmax mx xs=>cMM vm ss mx xs op
 |.pick _ _ _=>bX
 |.store _ _ _=>bX
 |.call _ _=>bX
 |.callp _ _=>bX
 |.callv _ _=>bX
 |.app _ _ _ _ _=>bX
 |.pur _=>bX
 |.callw _ _=>bX
 |.flat _=>bX
 |.trunc _ _ _=>bX
 |.movz _=>bX
 |.safe _ _=>bX
section
variable {F Iow:Nat->Prop}{w0:cS}{g0:Gh}{o0:Cx}{g:Gh}{w w':cS}{tmps:Array Value}{ds:List hV}{vm ss ss':List Nat}{s:St}{P:eo}{o:j6}{key:Nat}
def zZ(h:FR F g w tmps vm ss s){sz:Nat}(j:lG vm ss sz o.op=bI):
  BM (AR F g s.ob) w g s.ob key ⟨bI,.own (Bn key),[(Bn key,⟨sz,[]⟩)]⟩ ((fm ({ tmps:=tmps,defers:=ds }:Act).eval o).run P w):=by
 have main:∀y,Bb vm ss y (.c .nilsl)=bI->1<=sz->(fm ({ tmps:=tmps,defers:=ds }:Act).eval o).run P w = .ok (.value (({ tmps:=tmps,defers:=ds }:Act).eval y)) w ->
   BM (AR F g s.ob) w g s.ob key ⟨bI,.own (Bn key),[(Bn key,⟨sz,[]⟩)]⟩ ((fm ({ tmps:=tmps,defers:=ds }:Act).eval o).run P w):=by
  intro y J C R;have I:=UA (h.src (ds:=ds) J);refine⟨_,w,R,dU _ _,.inr ⟨Bn key,⟨sz,[]⟩,w.heap.size,0,rfl,by simp[Bn],k6 _,fun S' U=>?_,.inl ⟨rfl,.inr ⟨rfl,I⟩⟩⟩⟩;exact⟨C,k6 _,fun i hi=>by simp at hi,fun C=>absurd C (Nat.lt_irrefl _)⟩
 unfold lG at j;split at j
 .rename_i y he;simp only[hL,mn]at j;exact main y j.1 j.2 (by simp[fm,he])
 .rename_i y he;simp only[hL,mn]at j;exact main y j.1 j.2 (by simp[fm,he])
 .cases j
def VD(h:FR F g w tmps vm ss s){a:KW}(C:Pj P vm ss o.op a=bI)(j:(AP (rd s) s.ob key a).ok=bI):
  BM (AR F g s.ob) w g s.ob key (AP (rd s) s.ob key a) ((fm ({ tmps:=tmps,defers:=ds }:Act).eval o).run P w):=by
 cases a<;>simp only[Pj]at C<;>simp only[AP]at j ⊢<;>try(cases C;done)
 case mov=>exact AOK h C
 case newnil=>exact zZ h C
 case alloc=>exact AET h C j
 case box=>exact AOP h C j
 case build=>exact AES h C j
 case mkSl=>exact AKU h C j
 case load=>exact AKX h C j
 case nilck=>exact AEN h C j
 case bin=>exact AOQ h C j
 case eqA=>exact AOO h C j
 case un=>exact s_un h C j
 case conv=>exact AKa h C j
 case b2s=>exact AOR h C j
 case s2b=>exact AOJ h C j
 case mkFn=>exact AKV h C j
 case make=>
  simp only[hL,mn]at C;exact AKW h C.1 j C.2
 case slice=>exact AEM h C j
 case fldAddr=>exact wn h C j
 case fld agg off sz x=>
  simp only[IJ,hL]at j;obtain⟨v,w',J,hw,I⟩:=AOM (key:=key) (ds:=ds) h C j.2 j.1;exact⟨v,w',J,hw,I⟩
 case ixAddr=>exact za h C j
 case ixStr=>exact AEO h C j
 case ext=>exact AON h C j
 case len=>exact AOL h C j
 case minmax=>exact s_mm h C j
def un1:AV->AV
 |.opt bI a=>a
 |.opt bX _=>.any
 |.int k n=>.int k n
 |.bool b=>.bool b
 |.str l=>.str l
 |.cv v=>.cv v
 |.agg cs=>.agg cs
 |.tup cs=>.tup cs
 |.sl sz els=>.sl sz els
 |.nilsl=>.nilsl
 |.ptr sz els i off=>.ptr sz els i off
 |.fn f a b=>.fn f a b
 |.own k=>.own k
 |.ref k i off=>.ref k i off
 |.fresh sz els=>.fresh sz els
 |.mem sz els i=>.mem sz els i
 |.any=>.any
def SR.un1{S:Nat->Prop}{ob:Cx}{v:Value}{a:AV}(h:SR S w g ob v a):SR S w g ob v (un1 a):=by
 cases a<;>try exact h
 rename_i b a;cases b
 .exact SR.any
 .simp only[SR,if_true]at h;exact h.toSR
def unS(s:St):St:={ s with vs:=s.vs.map un1,st:=s.st.map un1 }
def FR.unS(h:FR F g w tmps vm ss s):FR F g w tmps vm ss (unS s) :=
 ⟨h.home,h.inj,h.nF,h.fb,by simpa[Go.Proofs.YtegmpdmpgmpiaaaGreatDoor.unS]using h.vl,by simpa[Go.Proofs.YtegmpdmpgmpiaaaGreatDoor.unS]using h.sl,
  fun i hi=>by simp only[Go.Proofs.YtegmpdmpgmpiaaaGreatDoor.unS];rw[CA un1 rfl];exact(h.vs i hi).un1,
  fun i hi=>by simp only[Go.Proofs.YtegmpdmpgmpiaaaGreatDoor.unS];rw[CA un1 rfl];exact(h.st i hi).un1,h.fit,h.tab⟩
def gC{a:AV}(h:Dc bI a=bI):un1 a=KX a:=by
 cases a<;>try rfl
 rename_i b a;simp only[Dc,k9,kb]at h;subst h;rfl
def aB{x:Src}(h:Dc bI (rd s x)=bI):rd (unS s) x=Wr s x:=by
 cases x
 case c=>rfl
 all_goals
  simp only[rd,unS,Wr]at h ⊢;rw[CA un1 rfl];exact gC h
def Iw{r r':Src->AV}{ob:Cx}{d:Nat}{a:KW}(C:Az a=bI)(h:∀x,x∈BQ a->r x=r' x):AP r ob d a=AP r' ob d a:=by
 cases a<;>simp only[Az]at C<;>(try(cases C;done))<;>simp only[BQ]at h<;>simp only[AP]
 case slice sz x lo hi=>
  have J:lo.map r=lo.map r':=by cases lo<;>simp_all
  have I:hi.map r=hi.map r':=by cases hi<;>simp_all
  rw[J,I,h x p']
 case minmax mx xs=>rw[bN h]
 case build z ps=>
  have e:(ps.map fun p=>(p.1,p.2.1,r p.2.2))=ps.map fun p=>(p.1,p.2.1,r' p.2.2):=bN fun p j=>by rw[h _ (fB.2 ⟨p,j,rfl⟩)]
  rw[e]
 case mkSl sz z n ps=>
  have e:(ps.map fun p=>(p.1,r p.2))=ps.map fun p=>(p.1,r' p.2):=bN fun p j=>by rw[h _ (fB.2 ⟨p,j,rfl⟩)]
  rw[e]
 all_goals simp_all
variable{m:Mk}
def BM.frz(h:FR F g w tmps vm ss s){r:Result Next}(hp:BM (AR F g s.ob) w g s.ob key m r):
  ∃v w',r = .ok (.value v) w'/\AD C' w w'/\SR (AR F g s.ob) w' g s.ob v (TW m).v:=by
 obtain⟨v,w',hr,hw,C⟩:=hp;refine⟨v,w',hr,hw,?_⟩;rcases C with⟨h0,hs⟩|⟨k,h',b,cap,e,_,hb,hH,hv⟩
 .simp only[TW,h0,ABO];exact hs
 .simp only[TW,e,ABO];have R:=hH (AR F g s.ob) fun c hc=>.inl hc
  obtain⟨rr,j⟩:=R.cell;have hn:0<cap->¬ AR F g s.ob b:=fun _ c=>by have:=h.setLt c;omega
  obtain⟨U,q2,q3⟩:=R.sl j (fun _ c=>c) hn;rcases hv with⟨J,I⟩|⟨J,I,e3⟩
  .rw[J];simp only[xu];rcases I with I|⟨I,e4⟩
   .rw[I];exact U.toSR
   .rw[e4];exact(q2 I).toSR
  .rw[J,e3];simp only[xu];have:=q3 0 0 I;rw[kB,kI]at this;exact this.toSR
def SR.lone{S:Nat->Prop}{ob:Cx}{v:Value}{a:AV}(h:SR S w g ob v a)(C:a.lone=bI):SR S w g ob v (.opt bI a):=by
 simp only[SR,if_true];cases a
 case fn f fi ca=>
  have j:(AV.fn f fi ca).atoms=bI:=by simpa[AV.atoms,AV.cells,AV.atom,AV.lone]using C
  exact h.atoms j
 all_goals first|exact h|(simp[AV.lone]at C)
variable{dst:Option Nat}{D:Kc}{v:Value}
def FX.guardPut(h:FX F Iow w0 g0 o0 g w tmps vm ss s)(J:RR vm)(hd:Fb vm ss dst D=cB ss')(I:∀d,dst=cB d->d<tmps.size)
  (R:AD C' w w') (hv:m.ok=bI->m.hs=[]->SR (AR F g s.ob) w' g s.ob v m.v) (j:(Pa s bI D m).ok=bI) :
  FX F Iow w0 g0 o0 g w' (Jo tmps dst v) vm ss' (Pa s bI D m):=by
 have hm:m.ok=bI/\m.hs=[]/\m.v.lone=bI:=by
  unfold Pa at j;cases D<;>simpa[BH]using (by simpa[BH]using j:_/\_).2
 have h1:=(h.toFR.grow R).put J hd I (!true||(m.ok&&(m.hs.isEmpty&&m.v.lone))) (v:=v) (a:=.opt bI m.v) (fun _=>(hv hm.1 hm.2.1).lone hm.2.2);have C:(Pa s bI D m).ob=s.ob:=by cases D<;>rfl
 exact FX.mk' (w:=w) h1 h.same (R.mono fun _ _ c=>c.elim) (fun k U=>h.hio k (by rw[C]at U;exact U)) h.fio (by rw[C];exact h.par)
def FX.guardSkip(h:FX F Iow w0 g0 o0 g w tmps vm ss s)(I:RR vm)(hd:Fb vm ss dst D=cB ss')(C:∀d,dst=cB d->d<tmps.size):
  FX F Iow w0 g0 o0 g w (Jo tmps dst hY) vm ss' (Pa s bX D m):=by
 have R:=h.toFR.put I hd C (!false||(m.ok&&(m.hs.isEmpty&&m.v.lone))) (v:=hY) (a:=.opt bX m.v) (fun _=>by simp[SR]);have j:(Pa s bX D m).ob=s.ob:=by cases D<;>rfl
 exact FX.mk' (w:=w) R h.same (dU _ _) (fun k J=>h.hio k (by rw[j]at J;exact J)) h.fio (by rw[j];exact h.par)
def jk(vm ss:List Nat)(c a b:Src):Op->Bool
 |.pick x y z=>Bb vm ss x c&&(Bb vm ss y a&&Bb vm ss z b)
 |_=>bX
def qu(c:Bool)(x y:AV):aL c x y = .any\/aL c x y=(bif c then x else y):=by
 unfold aL;split
 .right;cases c<;>rfl
 .rename_i k p j q
  by_cases e:k=j
  .subst e;right;simp only[beq_self_eq_true,cond_true];cases c<;>rfl
  .have:(k==j)=bX:=by simpa using e
   simp only[this,cond_false];exact .inl trivial
 .right;cases c<;>rfl
 .exact .inr rfl
def AEl{S:Nat->Prop}{ob:Cx}{u:Value}{x y:AV}(c:Bool)(C:c=bI->SR S w g ob v x)(j:c=bX->SR S w g ob u y):SR S w g ob (if c=bI then v else u) (aL c x y):=by
 rcases qu c x y with e|e
 .rw[e];exact SR.any
 .rw[e];cases c
  .exact j rfl
  .exact C rfl
def zY(h:FR F g w tmps vm ss s){c a b:Src}(J:jk vm ss c a b o.op=bI){R:AV}(C:SR (AR F g s.ob) w g s.ob (({ tmps:=tmps,defers:=ds }:Act).eval (match o.op with |.pick x _ _=>x|_=>.const hY)) R)(j:(OZ bI (rd s a) (rd s b) R).ok=bI):
  BM (AR F g s.ob) w g s.ob key (OZ bI (rd s a) (rd s b) R) ((fm ({ tmps:=tmps,defers:=ds }:Act).eval o).run P w):=by
 unfold jk at J;split at J
 .rename_i x y z he;simp only[hL]at J;obtain⟨h1,h2,h3⟩:=J;rw[he]at C;have aa:=h.src (ds:=ds) h2;have U:=h.src (ds:=ds) h3;cases R<;>simp only[OZ,bad]at j<;>try(cases j;done)
  rename_i cb;have I:=PC C;simp only[OZ,GW,Bool.true_and,hL]at j ⊢
  have un:∀{v:Value} {q:AV},SR (AR F g s.ob) w g s.ob v q->Dc bI q=bI->SR (AR F g s.ob) w g s.ob v (KX q):=fun hs ho=>by
   rw[←gC ho];exact hs.un1
  refine .val (v:=if cb=bI then({ tmps:=tmps,defers:=ds }:Act).eval y else({ tmps:=tmps,defers:=ds }:Act).eval z) (by simp only[]at I;simp[fm,he,I,asBool]) rfl (AEl cb (fun e=>?_) (fun e=>?_))
  .subst e;exact un aa j.1
  .subst e;exact un U j.2
 .cases J
end
open Go Go.RowKit
def Mh(args:List AV):St:={ vs:=Nl 0 args,st:=[],ob:=BN 0 args,ok:=true }
def yj(S:Nat->Prop)(w:cS)(g:Gh)(ob:Cx)(k:Nat)(v:Value):AV->Prop
 |.fresh sz els=>AK k ob=cB ⟨sz,els⟩/\(v = .slice (cB ⟨g.β k,0,fA⟩) els.length (g.cap k)\/(g.cap k=0/\v = .slice fA 0 0))
 |.mem sz els _=>AK k ob=cB ⟨sz,els⟩/\(els.length=1/\v = .pointer (cB ⟨g.β k,0,fA⟩))
 |a=>VR S w v a
def RV(S:Nat->Prop)(w:cS)(g:Gh)(ob:Cx)(κ:Nat->Nat)(v:Value):AV->Prop
 |.tup C=>∃vs,v = .tuple vs/\vs.size=C.length/\∀j,j<C.length->yj S w g ob (κ (j+1)) (vs.getD j hY) (C.getD j .any)
 |a=>yj S w g ob (κ 0) v a
def KB:AV->Bool
 |.fresh _ _=>bI
 |.mem _ _ _=>bI
 |_=>bX
def Kd(r:AV)(i:Nat):Prop :=
 match r with
 |.tup C=>∃j,i=j+1/\j<C.length/\KB (C.getD j .any)=bI
 |a=>i=0/\KB a=bI
def Kb:AV->Bool
 |.int _ _=>bI
 |.bool _=>bI
 |.str _=>bI
 |_=>bX
def ui(a:AV):Bool:=a.cells.all Kb
def SX:AV->Bool
 |.fresh _ els=>els.all ui
 |.mem _ els _=>els.all ui
 |a=>Kb a
def PP:AV->Bool
 |.tup j=>j.all SX
 |a=>SX a
structure fH(F:Nat->Prop)(g0:Gh)(args:List AV)(modes:List Md)(w:cS)(v:Value)(w':cS)(r:AV)(outs:List AV)(g:Gh)(ob:Cx)(κ:Nat->Nat):Prop where
 same:AD (fun b=>∃k,Mo g0 (BN 0 args) k/\g0.β k=b) w w'
 home:∀k h,AK k ob=cB h->Hy (AR F g ob) w' (g.β k) (g.cap k) h.sz h.els
 inj:∀k k',Mo g ob k->Mo g ob k'->g.β k=g.β k'->k=k'
 nF:∀k,Mo g ob k->¬ F (g.β k)
 hio:∀k,Mo g ob k->w.heap.size<=g.β k\/∃k',Mo g0 (BN 0 args) k'/\g0.β k'=g.β k
 val:RV (AR F g ob) w' g ob κ v r
 κinj:∀i j,Kd r i->Kd r j->κ i=κ j->i=j
 κio:∀i j,Kd r i->modes[j]? = cB .io->κ i≠AF j
 out:∀j,modes[j]? = cB .io->∃sz e0 els,((args.getD j .any = .fresh sz e0/\outs.getD j .any = .fresh sz els)\/(∃i i',args.getD j .any = .mem sz e0 i/\outs.getD j .any = .mem sz els i')) /\
  els.length=e0.length/\AK (AF j) ob=cB ⟨sz,els⟩/\g.β (AF j)=g0.β (AF j)/\g.cap (AF j)=g0.cap (AF j)
def DJ(P:eo)(f:lu)(args:Array Value)(w:cS)(R:Ending->cS->Prop):Prop :=
 match(lJ f args).run P w with
 |.ok (.value v) w'=>R (.returned v) w'
 |.ok (.enter f' j) w'=>Calls P f' j w' R
 |_=>False
def AAU(ms:List Md):Bool:=ms.all fun m=>!(m == .io)
def Cd(P:eo)(f:lu)(C:Ao):Prop :=
 (C.flat=bI->AAU C.modes=bI) /\
 ∀ (F:Nat->Prop) (g0:Gh) (w:cS) (args:List AV) (vargs:Array Value),GN C.modes args=bI->vargs.size=args.length ->
  FR F g0 w vargs (fu args.length) [] (Mh args)->(C.F args).ok=bI ->
  (C.flat=bI->PP (C.F args).r=bI) /\
  DJ P f vargs w fun e w'=>∃v g ob κ,e = .returned v/\fH F g0 args C.modes w v w' (C.F args).r (C.F args).outs g ob κ
variable{a:AV}
def WE{S S':Nat->Prop}{w w':cS}{v:Value}(j:Kb a=bI)(h:VR S w v a):VR S' w' v a:=by
 cases a<;>simp[Kb]at j<;>cases h<;>constructor
def IC:AV->Option Hm
 |.fresh sz els=>cB ⟨sz,els⟩
 |.mem sz els _=>cB ⟨sz,els⟩
 |_=>fA
variable{j:Nat}
def Vb{i:Nat}(h:AF i=AF j):i=j:=by unfold AF at h;omega
def UY(k:Nat):∀(args:List AV) (i:Nat),AK k (BN i args)=if k%32=31/\i<=k/32 then IC (args.getD (k/32-i) .any)else fA
 |[],i=>by simp[BN,AK,IC]
 | a::r,i=>by
  have U:=UY k r (i+1)
  have step:∀h:Hm,AK k ((AF i,h)::BN (i+1) r)=if k%32=31/\i<=k/32 then(if k/32=i then cB h else IC ((a::r).getD (k/32-i) .any))else fA:=by
   intro h;simp only[AK,AM,beq_iff_eq,U]
   by_cases e:AF i=k
   .subst e;have h1:(32*i+31)%32=31:=n'
    have h2:(32*i+31)/32=i:=n'
    simp[AF,h1,h2]
   .rw[if_neg e]
    by_cases j:k%32=31
    .have J:k/32≠i:=fun e2=>e (by unfold AF;omega)
     by_cases I:i<=k/32
     .rw[if_pos ⟨j,n'⟩,if_pos ⟨j,I⟩,if_neg J,show k/32-i=(k/32-(i+1))+1 by omega,dT]
     .rw[if_neg n',if_neg n']
    .rw[if_neg n',if_neg n']
  have skip:IC a=fA->AK k (BN (i+1) r)=if k%32=31/\i<=k/32 then IC ((a::r).getD (k/32-i) .any)else fA:=by
   intro R;rw[U]
   by_cases j:k%32=31
   .by_cases I:i<=k/32
    .by_cases C:k/32=i
     .rw[if_neg n',if_pos ⟨j,I⟩,C,j2,hA,R]
     .rw[if_pos ⟨j,n'⟩,if_pos ⟨j,I⟩,show k/32-i=(k/32-(i+1))+1 by omega,dT]
    .rw[if_neg n',if_neg n']
   .rw[if_neg n',if_neg n']
  have fin:∀sz els,IC a=cB ⟨sz,els⟩->AK k ((AF i,⟨sz,els⟩)::BN (i+1) r)=if k%32=31/\i<=k/32 then IC ((a::r).getD (k/32-i) .any)else fA:=by
   intro sz els R;rw[step]
   by_cases e:k%32=31/\i<=k/32
   .rw[if_pos e,if_pos e]
    by_cases C:k/32=i
    .rw[if_pos C,C,j2,hA,R]
    .rw[if_neg C]
   .rw[if_neg e,if_neg e]
  cases a
  case fresh sz els=>exact fin sz els rfl
  case mem sz els _=>exact fin sz els rfl
  all_goals exact skip rfl
def IX{args:List AV}:AK (AF j) (BN 0 args)=IC (args.getD j .any):=by
 rw[UY,if_pos (by unfold AF;omega)]
 congr 2
 unfold AF;omega
variable{k:Nat}
def Kp{args:List AV}{h:Hm}(C:AK k (BN 0 args)=cB h):∃j,k=AF j/\IC (args.getD j .any)=cB h:=by
 rw[UY]at C;split at C
 .rename_i e;exact⟨k/32,by unfold AF;omega,by simpa using C⟩
 .cases C
def YO(j:Nat):AV->AV
 |.fresh _ _=>.own (AF j)
 |.mem _ _ i=>.ref (AF j) i 0
 |a=>a
def Ln:∀(args:List AV) (i j:Nat),j<args.length->(Nl i args).getD j .any=YO (i+j) (args.getD j .any)
 |[],_,_,h=>by simp at h
 |a::r,i,0,_=>by cases a<;>rfl
 | a::r,i,j+1,h=>by
  have C:=Ln r (i+1) j (by simpa using h);rw[show i+(j+1)=i+1+j by omega,dT,←C];cases a<;>rfl
def Ko:∀(args:List AV) (i:Nat),(Nl i args).length=args.length
 |[],_=>rfl
 | a::r,i=>by
  have j:=Ko r (i+1);cases a<;>simp[Nl,j]
open Go Go.RowKit
def kk(C:List AV)(j:Nat):Nat:=(C.getD j .any).key1.headD 0
def Mc(g:Gh)(j:List AV):Gh:=⟨fun k=>g.β (kk j (k/32)),fun k=>g.cap (kk j (k/32))⟩
def Vc(j:Nat):AF j/32=j:=by unfold AF;omega
def Ir(ob:Cx):∀(ms:List Md) (C:List AV) (j:Nat),ms.length=C.length->j<C.length->(Bh ob ms C).getD j .any=Ey ob (ms.getD j .bor) (C.getD j .any)
 |[],[],_,_,h=>by simp at h
 |[],_::_,_,h,_=>by simp at h
 |_::_,[],_,h,_=>by simp at h
 |m::ms,a::C,0,_,_=>by simp[Bh]
 | m::ms,a::C,j+1,h,I=>by
  simp only[Bh,dT];exact Ir ob ms C j (by simpa using h) (by simpa using I)
def MZ(ob:Cx):∀(ms:List Md) (j:List AV),ms.length=j.length->(Bh ob ms j).length=j.length
 |[],[],_=>rfl
 |[],_::_,h=>by simp at h
 |_::_,[],h=>by simp at h
 |m::ms,a::j,h=>by simp[Bh,MZ ob ms j (by simpa using h)]
def Qg:∀(ms:List Md) (C:List AV),GN ms C=bI->ms.length=C.length/\∀j,j<C.length ->
  (ms.getD j .bor = .bor->Ho (C.getD j .any)=bX)/\(ms.getD j .bor = .io->Ho (C.getD j .any)=bI)/\(ms.getD j .bor = .mov->Ho (C.getD j .any)=bI\/ag (C.getD j .any)=bI)
 |[],[],_=>⟨rfl,fun j I=>by simp at I⟩
 |[],_::_,h=>by simp[GN]at h
 |m::_,[],h=>by cases m<;>simp[GN]at h
 | m::ms,a::C,h=>by
  have key:GN ms C=bI/\((m = .bor->Ho a=bX)/\(m = .io->Ho a=bI)/\(m = .mov->Ho a=bI\/ag a=bI)):=by
   cases m<;>simp only[GN,hL,d',cA]at h<;>refine⟨h.2,?_⟩<;>simp[h.1]
  obtain⟨J,h2⟩:=key;obtain⟨i1,i2⟩:=Qg ms C J;refine⟨by simp[i1],fun j I=>?_⟩;cases j with
  |zero=>simpa using h2
  |succ j=>simpa using i2 j (by simpa using I)
def Mz:∀(ms:List Md) (C:List AV) (j:Nat),ms.length=C.length->j<C.length->ms.getD j .bor ≠ .bor->∀k,k∈(C.getD j .any).key1->k∈Bi ms C
 |[],[],_,_,h,_,_,_=>by simp at h
 |[],_::_,_,h,_,_,_,_=>by simp at h
 |_::_,[],_,h,_,_,_,_=>by simp at h
 | m::ms,a::C,0,_,_,hm,k,I=>by
  cases m<;>simp at hm<;>simp only[Bi,bS]<;>exact .inl (by simpa using I)
 | m::ms,a::C,j+1,h,J,hm,k,I=>by
  have:=Mz ms C j (by simpa using h) (by simpa using J) (by simpa using hm) k (by simpa using I);cases m<;>simp only[Bi,bS]<;>first|exact this|exact .inr this
def Ye:∀(ms:List Md) (C:List AV) (j:Nat),ms.length=C.length->j<C.length->ms.getD j .bor = .bor->∀k,k∈(C.getD j .any).keys->k∈Fp ms C
 |[],[],_,_,h,_,_,_=>by simp at h
 |[],_::_,_,h,_,_,_,_=>by simp at h
 |_::_,[],_,h,_,_,_,_=>by simp at h
 | m::ms,a::C,0,_,_,hm,k,I=>by
  cases m<;>simp at hm
  simp only[Fp,bS];exact .inl (by simpa using I)
 | m::ms,a::C,j+1,h,J,hm,k,I=>by
  have:=Ye ms C j (by simpa using h) (by simpa using J) (by simpa using hm) k (by simpa using I);cases m<;>simp only[Fp,bS]<;>first|exact this|exact .inr this
variable{r:List Nat}
def fj(h:FA (k::r)=bI):k ∉ r/\FA r=bI:=by
 simp only[FA,hL,cA,k1,beq_iff_eq]at h;exact⟨fun j=>h.1 k j rfl,h.2⟩
def Jr{l:List Nat}(h:FA (l++r)=bI):FA r=bI/\∀k,k∈l->k ∉ r:=by
 induction l with
 |nil=>exact⟨h,fun k j=>by simp at j⟩
 | cons a l C=>
  obtain⟨I,h2⟩:=fj h;obtain⟨i1,i2⟩:=C h2;refine⟨i1,fun k j=>?_⟩;rcases eL.1 j with e|j
  .rw[e];exact fun c=>I (bS.2 (.inr c))
  .exact i2 k j
def XZ:∀(ms:List Md) (C:List AV) (i j:Nat),ms.length=C.length->FA (Bi ms C)=bI->i<j->j<C.length->ms.getD i .bor ≠ .bor->ms.getD j .bor ≠ .bor->∀k,k∈(C.getD i .any).key1->k∈(C.getD j .any).key1->False
 |[],[],_,_,_,_,_,h,_,_,_,_,_=>by simp at h
 |[],_::_,_,_,h,_,_,_,_,_,_,_,_=>by simp at h
 |_::_,[],_,_,h,_,_,_,_,_,_,_,_=>by simp at h
 | m::ms,a::C,0,j+1,R,hd,_,U,hi,I,k,h1,h2=>by
  have h3:=Mz ms C j (by simpa using R) (by simpa using U) (by simpa using I) k (by simpa using h2);have J:FA (a.key1++Bi ms C)=bI:=by cases m<;>simp at hi<;>simpa[Bi]using hd
  exact(Jr J).2 k (by simpa using h1) h3
 | m::ms,a::C,i+1,j+1,R,hd,ab,U,hi,I,k,h1,h2=>by
  have J:FA (Bi ms C)=bI:=by
   cases m
   .simpa[Bi]using hd
   .exact(Jr (by simpa[Bi]using hd)).1
   .exact(Jr (by simpa[Bi]using hd)).1
  exact XZ ms C i j (by simpa using R) J n' (by simpa using U) (by simpa using hi) (by simpa using I) k (by simpa using h1) (by simpa using h2)
 |_::_,_::_,0,0,_,_,h,_,_,_,_,_,_=>by omega
 |_::_,_::_,_+1,0,_,_,h,_,_,_,_,_,_=>n'
def cK{ks j:List Nat}(h:apart ks j=bI)(C:k∈ks)(h2:k∈j):False:=by
 simp only[apart,bR,cA,k1,beq_iff_eq]at h;exact h k C k h2 rfl
def ZO{ob:Cx}{m:Md}{hm:Hm}(h:IC (Ey ob m a)=cB hm)(J:m = .bor->Ho (Ey ob m a)=bX):
  m ≠ .bor/\∃k,(a = .own k/\Ey ob m a = .fresh hm.sz hm.els\/∃i,a = .ref k i 0/\Ey ob m a = .mem hm.sz hm.els i)/\AK k ob=cB hm/\k∈a.key1:=by
 have I:m ≠ .bor:=by
  intro e;have R:=J e;revert h R;generalize Ey ob m a=x;intro h R;cases x<;>simp[IC,Ho]at h R
 refine⟨I,?_⟩;have hio:Ey ob m a=MD ob a:=by cases m<;>first|exact absurd rfl I|rfl
 rw[hio]at h ⊢;cases a
 case own k=>
  simp only[MD]at h ⊢;cases j:AK k ob with
  |none=>rw[j]at h;simp[Ug,IC]at h
  | some U=>
   rw[j]at h;simp only[Ug,IC,fs]at h;exact⟨k,.inl ⟨rfl,by simp[Ug,←h]⟩,by rw[j,←h],by simp[AV.key1]⟩
 case ref k i off=>
  rcases lb off with C|C
  .subst C;simp only[MD]at h ⊢;cases j:AK k ob with
   |none=>rw[j]at h;simp[qv,IC]at h
   | some U=>
    rw[j]at h;simp only[qv,IC,fs]at h;subst h;exact⟨k,.inr ⟨i,rfl,by simp[qv]⟩,j,by simp[AV.key1]⟩
  .obtain⟨n,rfl⟩:∃n,off=n+1:=⟨off-1,n'⟩;simp[MD,IC]at h
 all_goals simp[MD,IC]at h
section
variable {F Iow:Nat->Prop}{w0:cS}{g0:Gh}{o0:Cx}{g:Gh}{w w':cS}{tmps:Array Value}{ds:List hV}{vm ss ss':List Nat}{s:St}{P:eo}{o:j6}{key:Nat}
def FR.dv1(h:FR F g w tmps vm ss s){S':Nat->Prop}(R:∀b,S' b->AR F g s.ob b){v:Value}{a:AV}(U:∀k,k∈a.key1->∀b,S' b->0<g.cap k->Lb s.ob k->b≠g.β k)(J:QX (AR F g s.ob) w g s.ob v a):VR S' w v (a.dv1 s.ob):=by
 cases a
 case own k=>
  obtain⟨hm,C,e⟩:=J;simp only[AV.dv1,C,zT];rcases e with e|⟨hz,e⟩
  .rw[e];exact(h.sl_of C fun b hb=>⟨R b hb,fun I=>U k (by simp[AV.key1]) b hb I ⟨hm,C⟩⟩).1
  .rw[e,h.nil_els C hz];exact .sl 0 0 (fun _ _=>hY) rfl (k6 _) (h.home k hm C).pos (fun I=>by simp at I) (fun i hi=>by simp at hi) (fun i j hi _=>by simp at hi) (fun i j hi _=>by simp at hi)
 case ref k i off=>
  obtain⟨hm,C,hi,e⟩:=J;simp only[AV.dv1,C,nZ];rw[e];exact(h.sl_of C fun b hb=>⟨R b hb,fun I=>U k (by simp[AV.key1]) b hb I ⟨hm,C⟩⟩).2 i off hi |>.narrow
 case ptr sz els i off=>exact(VR.mono (dU _ _) (fun b _ c=>R b c) J:VR S' w v (.ptr sz els i off)).narrow
 case fresh=>exact .any
 case mem=>exact .any
 case opt=>exact .any
 case any=>exact .any
 all_goals exact VR.mono (dU _ _) (fun b _ c=>R b c) J
def FR.dv(h:FR F g w tmps vm ss s){S':Nat->Prop}(I:∀b,S' b->AR F g s.ob b){v:Value}{a:AV}(R:∀k,k∈a.keys->∀b,S' b->0<g.cap k->Lb s.ob k->b≠g.β k)(ha:SR (AR F g s.ob) w g s.ob v a):VR S' w v (a.dv s.ob):=by
 have hl:∀(l:List AV) j,(l.map (AV.dv1 s.ob)).getD j .any=(l.getD j .any).dv1 s.ob:=fun l j=>CA _ rfl l j
 cases a
 case fn f a1 a2=>
  obtain⟨v1,v2,rfl,n1,n2,h1,h2⟩:=ha;refine .fn (by simpa using n1) (by simpa using n2) (fun j U=>?_) (fun j U=>?_)
  .rw[hl];exact h.dv1 I (fun k C=>R k (by simp only[AV.keys,hZ,bS];exact .inl (DW (by simpa using U) C))) (h1 j (by simpa using U))
  .rw[hl];exact h.dv1 I (fun k C=>R k (by simp only[AV.keys,hZ,bS];exact .inr (DW (by simpa using U) C))) (h2 j (by simpa using U))
 case own k=>exact h.dv1 (a:=.own k) I (fun J C=>R J C) ha
 case ref k i off=>exact h.dv1 (a:=.ref k i off) I (fun J C=>R J C) ha
 case ptr sz els i off=>exact h.dv1 (a:=.ptr sz els i off) I (fun J C=>R J C) ha
 case tup=>exact .any
 case fresh=>exact .any
 case mem=>exact .any
 case opt=>exact .any
 case any=>exact .any
 all_goals exact VR.mono (dU _ _) (fun b _ c=>I b c) ha
def FR.args(h:FR F g w tmps vm ss s){ax:Array Value}{C:List AV}{ms:List Md}(cd:ax.size=C.length)(hv:∀j,j<C.length->SR (AR F g s.ob) w g s.ob (ax.getD j hY) (C.getD j .any))
  (hd:FA (Bi ms C)=bI) (c6:apart (Bi ms C) (Fp ms C)=bI) (I:ms.length=C.length) (cf:GN ms (Bh s.ob ms C)=bI)
  {Fc:Nat->Prop} (bh:∀b,Fc b->AR F g s.ob b/\∀k,(k∈Bi ms C\/k∈Fp ms C)->Mo g s.ob k->g.β k≠b) :
  FR Fc (Mc g C) w ax (fu C.length) [] (Mh (Bh s.ob ms C)):=by
 obtain⟨_,b0⟩:=Qg _ _ cf;have be:=MZ s.ob ms C I;rw[be]at b0
 have blk:∀k hm,AK k (BN 0 (Bh s.ob ms C))=cB hm->∃j k0,k=AF j/\j<C.length/\ms.getD j .bor ≠ .bor/\AK k0 s.ob=cB hm/\k0∈(C.getD j .any).key1/\kk C j=k0/\k0∈Bi ms C:=by
  intro k hm hg;obtain⟨j,rfl,hf⟩:=Kp hg
  have hj:j<C.length:=by
   rcases hO j C.length with h' |h'
   .exact h'
   .rw[kf,hP (by rw[be];exact h')]at hf;simp[IC]at hf
  rw[Ir _ _ _ _ I hj]at hf;have hs:=b0 j hj;rw[Ir _ _ _ _ I hj]at hs;obtain⟨h1,k0,h2,h3,h4⟩:=ZO hf (fun e=>hs.1 e);refine⟨j,k0,rfl,hj,h1,h3,h4,?_,Mz ms C j I hj h1 k0 h4⟩;unfold kk;rcases h2 with⟨e,_⟩|⟨_,e,_⟩<;>rw[e]<;>rfl
 have gk:∀j,(Mc g C).β (AF j)=g.β (kk C j)/\(Mc g C).cap (AF j)=g.cap (kk C j):=fun j=>by
  simp[Mc,Vc]
 have sub:∀b,AR Fc (Mc g C) (BN 0 (Bh s.ob ms C)) b->AR F g s.ob b:=by
  intro b hb;rcases hb with hb|⟨k,⟨⟨hm,hg⟩,hp⟩,e⟩
  .exact(bh b hb).1
  .obtain⟨j,k0,rfl,hj,_,J,_,ek,_⟩:=blk k hm hg;rw[(gk j).1,ek]at e;rw[(gk j).2,ek]at hp;exact .inr ⟨k0,⟨⟨hm,J⟩,hp⟩,e⟩
 have db:∀k,k∈Fp ms C->∀b,AR Fc (Mc g C) (BN 0 (Bh s.ob ms C)) b->0<g.cap k->Lb s.ob k->b≠g.β k:=by
  intro k hk b hb hp bb e;rcases hb with hb|⟨k',⟨⟨hm,hg⟩,az⟩,e'⟩
  .exact(bh b hb).2 k (.inr hk) ⟨bb,hp⟩ e.symm
  .obtain⟨j,k0,rfl,hj,_,J,_,ek,hio⟩:=blk k' hm hg;rw[(gk j).1,ek]at e';rw[(gk j).2,ek]at az;have:=h.inj k0 k ⟨⟨hm,J⟩,az⟩ ⟨bb,hp⟩ (by rw[e',e]);subst this;exact cK c6 hio hk
 refine⟨fun k hm hg=>?_,fun k k' hk cn e=>?_,fun k hk=>?_,fun b hb=>h.setLt (bh b hb).1,?_,rfl,fun j hj=>?_,fun j hj=>by simp at hj,fun t ht=>?_,h.tab.mono (dU _ _) fun b _ c=>sub b c⟩
 .obtain⟨j,k0,rfl,hj,_,J,_,ek,_⟩:=blk k hm hg;rw[(gk j).1,(gk j).2,ek];exact(h.home k0 hm J).mono (dU _ _) (fun _=>rfl) fun b _ c=>sub b c
 .obtain⟨⟨hm,hg⟩,hp⟩:=hk;obtain⟨⟨ba,ct⟩,az⟩:=cn;obtain⟨j,k0,rfl,hj,b3,J,a7,ek,_⟩:=blk k hm hg;obtain⟨j',cb,rfl,U,bs,cl,a6,b8,_⟩:=blk k' ba ct;rw[(gk j).1,(gk j').1,ek,b8]at e;rw[(gk j).2,ek]at hp;rw[(gk j').2,b8]at az;have:=h.inj k0 cb ⟨⟨hm,J⟩,hp⟩ ⟨⟨ba,cl⟩,az⟩ e;subst this
  congr 1
  rcases Nat.lt_trichotomy j j' with b2|heq|b2
  .exact(XZ ms C j j' I hd b2 U b3 bs k0 a7 a6).elim
  .exact heq
  .exact(XZ ms C j' j I hd b2 hj bs b3 k0 a6 a7).elim
 .obtain⟨⟨hm,hg⟩,hp⟩:=hk;obtain⟨j,k0,rfl,hj,b3,J,a7,ek,hio⟩:=blk k hm hg;rw[(gk j).1,ek];rw[(gk j).2,ek]at hp;exact fun hf=>(bh _ hf).2 k0 (.inl hio) ⟨⟨hm,J⟩,hp⟩ rfl
 .simp[Mh,Ko,be]
 .have U:j<C.length:=by simpa using hj
  have e1:(fu C.length).getD j 0=j:=by rw[kf,List.getElem?_range U];rfl
  rw[e1];simp only[Mh];rw[Ln _ 0 j (by rw[be];exact U),kI];have hs:=b0 j U;have ab:=hv j U;have bz:=Ir s.ob ms C j I U;rw[bz]at hs ⊢
  by_cases hb:ms.getD j .bor = .bor
  .have b1:=hs.1 hb
   have e2:YO j (Ey s.ob (ms.getD j .bor) (C.getD j .any))=Ey s.ob (ms.getD j .bor) (C.getD j .any):=by
    revert b1;generalize Ey s.ob (ms.getD j .bor) (C.getD j .any)=x;intro b1;cases x<;>first|rfl|(simp[Ho]at b1)
   rw[e2,hb];refine VR.toSR (h.dv sub (fun k hk b cw hp bb=>db k (Ye ms C j I U hb k hk) b cw hp bb) ab)
  .cases hf:IC (Ey s.ob (ms.getD j .bor) (C.getD j .any))with
   | some hm=>
    obtain⟨_,k0,h2,h3,h4⟩:=ZO hf (fun e=>absurd e hb);have b6:AK (AF j) (BN 0 (Bh s.ob ms C))=cB hm:=by rw[IX,bz,hf]
    rcases h2 with⟨e,e2⟩|⟨i,e,e2⟩
    .rw[e2];rw[e]at ab;obtain⟨ba,J,ay⟩:=ab;rw[h3]at J;cases J;have ek:kk C j=k0:=by unfold kk;rw[e];rfl
     exact⟨hm,b6,by rw[(gk j).1,(gk j).2,ek];exact ay⟩
    .rw[e2];rw[e]at ab;obtain⟨ba,J,hi,ay⟩:=ab;rw[h3]at J;cases J;have ek:kk C j=k0:=by unfold kk;rw[e];rfl
     exact⟨hm,b6,hi,by rw[(gk j).1,ek];exact ay⟩
   | none=>
    have a1:ag (Ey s.ob (ms.getD j .bor) (C.getD j .any))=bI:=by
     cases R:ms.getD j .bor with
     |bor=>exact absurd R hb
     | io=>
      have:=hs.2.1 R;revert this hf;rw[R];generalize Ey s.ob .io (C.getD j .any)=x;intro hf this;cases x<;>simp[Ho,IC]at this hf
     | mov=>
      rcases hs.2.2 R with this|this
      .revert this hf;rw[R];generalize Ey s.ob .mov (C.getD j .any)=x;intro hf this;cases x<;>simp[Ho,IC]at this hf
      .rw[R]at this;exact this
    have hx:Ey s.ob (ms.getD j .bor) (C.getD j .any) = .nilsl:=by
     revert a1;generalize Ey s.ob (ms.getD j .bor) (C.getD j .any)=x;intro a1;cases x<;>simp[ag]at a1
     rfl
    have ha:C.getD j .any = .nilsl:=by
     have hio:Ey s.ob (ms.getD j .bor) (C.getD j .any)=MD s.ob (C.getD j .any):=by
      cases R:ms.getD j .bor<;>first|exact absurd R hb|rfl
     rw[hio]at hx;revert hx;generalize C.getD j .any=x;intro hx;cases x
     case own k=>simp only[MD]at hx;cases J:AK k s.ob<;>rw[J]at hx<;>simp[Ug]at hx
     case ref k i off=>
      rcases lb off with b7|b7
      .subst b7;simp only[MD]at hx;revert hx;generalize AK k s.ob=y;intro hx;cases y<;>simp[qv]at hx
      .obtain⟨n,rfl⟩:∃n,off=n+1:=⟨off-1,n'⟩;simp[MD]at hx
     case nilsl=>rfl
     all_goals simp[MD]at hx
    rw[hx];rw[ha]at ab;have:=UA ab;rw[this];exact VR.toSR .nilsl
 .rcases ht with ht|ht
  .rw[cd];simpa using ht
  .simp at ht
end
def DJ.mono{P:eo}{f:lu}{args:Array Value}{w:cS}{R C:Ending->cS->Prop}(h:DJ P f args w R)(j:∀e w',R e w'->C e w'):DJ P f args w C:=by
 unfold DJ at h ⊢;split at h
 .exact j _ _ h
 .exact Calls.mono h j
 .exact h.elim
structure Nf(S:Nat->Prop)(pend:Nat->Prop)(g:Gh)(w:cS)(tmps:Array Value)(vm ss:List Nat)(s:St):Prop where
 home:∀k h,¬ pend k->AK k s.ob=cB h->Hy S w (g.β k) (g.cap k) h.sz h.els
 vl:s.vs.length=vm.length
 sl:s.st.length=ss.length
 vs:∀i,i<vm.length->SR S w g s.ob (tmps.getD (vm.getD i 0) hY) (s.vs.getD i .any)
 st:∀i,i<ss.length->SR S w g s.ob (tmps.getD (ss.getD i 0) hY) (s.st.getD i .any)
 fit:∀t,t∈vm\/t∈ss->t<tmps.size
def JK:List Md->List AV->List Nat
 |.mov::ms,a::j=>a.key1++JK ms j
 |.bor::ms,_::j=>JK ms j
 |.io::ms,_::j=>JK ms j
 |_,_=>[]
section
variable {S:Nat->Prop}{pend:Nat->Prop}{F Iow:Nat->Prop}{w0:cS}{g0:Gh}{o0:Cx}{g:Gh}{w w':cS}{tmps:Array Value}{ds:List hV}{vm ss ss':List Nat}{s:St}{P:eo}{o:j6}{key:Nat}
variable{ob':Cx}
def Nf.forget(h:Nf S pend g w tmps vm ss s)(φ:AV->AV)(j:φ .any = .any)(C:∀k hm,AK k ob'=cB hm->AK k s.ob=cB hm)
  (R:∀a,φ a = .any\/(φ a=a/\∀k,k∈a.keys->∀hm,AK k s.ob=cB hm->AK k ob'=cB hm)) (ok:Bool) :
  Nf S pend g w tmps vm ss { vs:=s.vs.map φ,st:=s.st.map φ,ob:=ob',ok:=ok }:=by
 have one:∀{v a},SR S w g s.ob v a->SR S w g ob' v (φ a):=by
  intro v a U;rcases R a with e|⟨e,J⟩
  .rw[e];exact SR.any
  .rw[e];exact U.mono (dU _ _) (fun _ _ c=>c) fun k I hm hg=>⟨hm,J k I hm hg,rfl,rfl,rfl,rfl⟩
 exact⟨fun k hm hp J=>h.home k hm hp (C k hm J),by simpa using h.vl,by simpa using h.sl,fun i hi=>by rw[CA φ j];exact one (h.vs i hi),fun i hi=>by rw[CA φ j];exact one (h.st i hi),h.fit⟩
def Nf.killAll(h:Nf S pend g w tmps vm ss s)(k:Nat):Nf S pend g w tmps vm ss (ml s k):=by
 refine h.forget (AV.kill k) (oJ k) (fun j hm C=>?_) (fun a=>?_) s.ok
 .rw[FH]at C;split at C
  .cases C
  .exact C
 .rcases aW k a with e|⟨e,I⟩
  .exact .inl e
  .refine .inr ⟨e,fun j J hm R=>?_⟩;rw[FH,if_neg (fun e:k=j=>I (by rw[e];exact J))];exact R
def Nf.clear(h:Nf S pend g w tmps vm ss s)(d:Nat):Nf S pend g w tmps vm ss (clear s d):=by
 unfold Go.Proofs.YtegmpdmpgmpiaaaGreatDoor.clear;rw[AM];split
 .refine h.forget (bm d) (by simp[bm,AV.keys]) (fun k hm j=>?_) (fun a=>?_) s.ok
  .rw[Ij]at j;split at j
   .cases j
   .exact j
  .by_cases C:a.keys.any (fun k=>k/32==d)=bI
   .exact .inl (by simp only[bm,AM];rw[if_pos C])
   .refine .inr ⟨by simp only[bm,AM];rw[if_neg C],fun k j hm I=>?_⟩;rw[Ij,if_neg (fun e=>C (h8.2 ⟨k,j,by simp[e]⟩))];exact I
 .exact h
def Nf.setIo(h:Nf S pend g w tmps vm ss s){k:Nat}{hm h2:Hm}(U:AK k s.ob=cB hm)(I:h2.sz=hm.sz)(R:h2.els.length=hm.els.length)(hH:Hy S w (g.β k) (g.cap k) h2.sz h2.els):
  Nf S (fun j=>pend j/\j≠k) g w tmps vm ss { s with ob:=DM k h2 s.ob }:=by
 have key:∀j,Tm g g s.ob (DM k h2 s.ob) j:=fun j=>Tm.set U R I j
 refine⟨fun j h' J C=>?_,h.vl,h.sl,fun i hi=>(h.vs i hi).mono (dU _ _) (fun _ _ c=>c) fun j _=>key j,fun i hi=>(h.st i hi).mono (dU _ _) (fun _ _ c=>c) fun j _=>key j,h.fit⟩;simp only[BP]at C
 by_cases e:k=j
 .subst e;rw[if_pos rfl]at C;cases C;exact hH
 .rw[if_neg e]at C;exact h.home j h' (fun c=>J ⟨c,Ne.symm e⟩) C
def Nf.pend'(h:Nf S pend g w tmps vm ss s){j:Nat->Prop}(I:∀k,Lb s.ob k->pend k->j k):Nf S j g w tmps vm ss s :=
 ⟨fun k hm J C=>h.home k hm (fun c=>J (I k ⟨hm,C⟩ c)) C,h.vl,h.sl,h.vs,h.st,h.fit⟩
def dh(S:Nat->Prop)(g:Gh)(w:cS)(ob:Cx)(ms:List Md)(C os:List AV):Prop :=
 ∀ j,j<C.length->ms.getD j .bor = .io->∃k hm sz els,((C.getD j .any = .own k/\os.getD j .any = .fresh sz els)\/(∃i i',C.getD j .any = .ref k i 0/\os.getD j .any = .mem sz els i')) /\
  AK k ob=cB hm/\sz=hm.sz/\els.length=hm.els.length/\Hy S w (g.β k) (g.cap k) sz els
def dh.tail{ob:Cx}{m:Md}{a q:AV}{ms:List Md}{C os:List AV}(hI:dh S g w ob (m::ms) (a::C) (q::os))(U:ms.length=C.length)
  (hk:∀k,k∈Bi ms C->∀hm,AK k ob=cB hm->AK k ob'=cB hm):dh S g w ob' ms C os:=by
 intro j J hm;obtain⟨k,R,sz,els,I,h2,h3⟩:=hI (j+1) (by simpa using J) (by simpa using hm);simp only[dT]at I;refine⟨k,R,sz,els,I,hk k (Mz ms C j U J (by rw[hm];decide) k ?_) R h2,h3⟩;rcases I with⟨e,_⟩|⟨_,_,e,_⟩<;>rw[e]<;>simp[AV.key1]
def NS:∀(ms:List Md) (I os:List AV) {s:St} {pend:Nat->Prop},Nf S pend g w tmps vm ss s->ms.length=I.length->dh S g w s.ob ms I os->FA (Bi ms I)=bI->(Ak s ms I os).ok=bI ->
  Nf S (fun k=>pend k/\k ∉ Bi ms I) g w tmps vm ss (Ak s ms I os)/\s.ok=bI /\
  (∀k J,AK k (Ak s ms I os).ob=cB J->k ∉ JK ms I/\∃h0,AK k s.ob=cB h0/\J.sz=h0.sz/\J.els.length=h0.els.length)
 | [],[],os,s,pend,h,_,_,_,C=>by
  cases os with
  |nil=>simp only[Ak]at C ⊢;exact⟨by simpa[Bi]using h,C,fun k J hg=>⟨by simp[JK],J,hg,rfl,rfl⟩⟩
  |cons q os=>simp[Ak,fail]at C
 |[],_::_,_,_,_,_,hl,_,_,_=>by simp at hl
 |_::_,[],_,_,_,_,hl,_,_,_=>by simp at hl
 |m::ms,a::I,[],s,pend,h,_,_,_,C=>by cases m<;>cases a<;>simp[Ak,fail]at C
 | .bor::ms,a::I,q::os,s,pend,h,hl,hI,hd,C=>by
  simp only[Ak]at C ⊢;exact NS ms I os h (by simpa using hl) (hI.tail (by simpa using hl) fun _ _ _ c=>c) (by simpa[Bi]using hd) C
 | .io::ms,a::I,q::os,s,pend,h,hl,hI,hd,C=>by
  have U:ms.length=I.length:=by simpa using hl
  obtain⟨k,h0,sz,els,h1,h2,h3,h4,h5⟩:=hI 0 p' rfl;simp only[hA]at h1;have ao:a.key1=[k]:=by rcases h1 with⟨e,_⟩|⟨_,_,e,_⟩<;>rw[e]<;>rfl
  have aj:FA (a.key1++Bi ms I)=bI:=by simpa[Bi]using hd
  rw[ao]at aj;obtain⟨ae,ax⟩:=Jr aj
  have au:Ak s (.io::ms) (a::I) (q::os)=Ak { s with ob:=DM k ⟨sz,els⟩ s.ob } ms I os:=by
   rcases h1 with⟨e1,R⟩|⟨_,_,e1,R⟩<;>subst e1<;>subst R<;>rfl
  rw[au]at C ⊢;have a7:=h.setIo (h2:=⟨sz,els⟩) h2 h3 h4 h5
  obtain⟨r1,r2,r3⟩:=NS ms I os a7 U (hI.tail U fun j hj hm hg=>by
   have:k≠j:=fun e=>ax k p' (e▸hj)
   rw[BP,if_neg this];exact hg) ae C
  refine⟨r1.pend' fun j _ hp=>⟨hp.1.1,?_⟩,r2,fun j J hg=>?_⟩
  .simp only[Bi,ao,bS,j8];rintro(e|e)
   .exact hp.1.2 e
   .exact hp.2 e
  .obtain⟨e0,e1,R,e3,e4⟩:=r3 j J hg;refine⟨by simpa[JK]using e0,?_⟩;simp only[BP]at R
   by_cases e:k=j
   .subst e;rw[if_pos rfl]at R;cases R;exact⟨h0,h2,by rw[e3,h3],by rw[e4,h4]⟩
   .rw[if_neg e]at R;exact⟨e1,R,e3,e4⟩
 | .mov::ms,a::I,q::os,s,pend,h,hl,hI,hd,C=>by
  have U:ms.length=I.length:=by simpa using hl
  have aj:FA (a.key1++Bi ms I)=bI:=by simpa[Bi]using hd
  obtain⟨ae,ax⟩:=Jr aj;cases a<;>simp only[Ak,fail]at C<;>try(cases C;done)
  case nilsl=>
   simp only[Ak]at C ⊢;obtain⟨r1,r2,r3⟩:=NS ms I os h U (hI.tail U fun _ _ _ c=>c) ae C;exact⟨by simpa[Bi,AV.key1]using r1,r2,by simpa[JK,AV.key1]using r3⟩
  case own k=>
   simp only[Ak]at C ⊢
   obtain⟨r1,r2,r3⟩:=NS ms I os (h.killAll k) U (hI.tail U fun j hj hm hg=>by
    have:k≠j:=fun e=>ax k (by simp[AV.key1]) (e▸hj)
    simp only[Go.Proofs.YtegmpdmpgmpiaaaGreatDoor.killAll];rw[FH,if_neg this];exact hg) ae C
   have ab:∀j J,AK j (Ak (Go.Proofs.YtegmpdmpgmpiaaaGreatDoor.killAll s k) ms I os).ob=cB J->j≠k:=fun j J hg e=>by
    obtain⟨_,e1,R,_⟩:=r3 j J hg;simp only[Go.Proofs.YtegmpdmpgmpiaaaGreatDoor.killAll]at R;rw[FH,if_pos e.symm]at R;cases R
   refine⟨r1.pend' fun j ⟨J,hg⟩ hp=>⟨hp.1,?_⟩,r2,fun j J hg=>?_⟩
   .simp only[Bi,AV.key1,bS,j8];rintro(e|e)
    .exact ab j J hg e
    .exact hp.2 e
   .obtain⟨e0,e1,R,e3,e4⟩:=r3 j J hg;have a8:=ab j J hg;refine⟨?_,e1,?_,e3,e4⟩
    .simp only[JK,AV.key1,bS,j8];rintro(e|e)
     .exact a8 e
     .exact e0 e
    .simp only[Go.Proofs.YtegmpdmpgmpiaaaGreatDoor.killAll]at R;rw[FH,if_neg (Ne.symm a8)]at R;exact R
end
open Go Go.RowKit
def Jk(r:AV)(i:Nat):Bool :=
 match r with
 |.tup j=>decide (1<=i)&&(decide (i<=j.length)&&KB (j.getD (i-1) .any))
 |a=>decide (i=0)&&KB a
def jM{r:AV}{i:Nat}:Jk r i=bI ↔ Kd r i:=by
 cases r<;>simp only[Jk,Kd,hL,mn]
 case tup U=>
  constructor
  .rintro⟨R,h2,I⟩;exact⟨i-1,n',n',I⟩
  .rintro⟨j,rfl,J,C⟩;exact⟨n',n',by simpa using C⟩
def KS(r:AV)(i:Nat):AV :=
 match r with
 |.tup j=>j.getD (i-1) .any
 |a=>a
def cO(k d:Nat):∀(cs:List AV) (j:Nat) (ob:Cx),j+cs.length<=32 ->
  AK k (GU ob (Mi d j cs))=if k/32=d/\j<=k%32/\k%32<j+cs.length/\KB (cs.getD (k%32-j) .any)=bI then IC (cs.getD (k%32-j) .any)else AK k ob
 |[],j,ob,_=>by simp only[Mi,GU,List.length_nil];rw[if_neg n']
 | a::r,j,ob,hl=>by
  simp only[lv]at hl ⊢;have ih:=fun ob=>cO k d r (j+1) ob n'
  have skip:KB a=bX->AK k (GU ob (Mi d (j+1) r))=if k/32=d/\j<=k%32/\k%32<j+(r.length+1)/\KB ((a::r).getD (k%32-j) .any)=bI then IC ((a::r).getD (k%32-j) .any)else AK k ob:=by
   intro hf;rw[ih]
   by_cases e:k%32=j
   .rw[if_neg n',if_neg];rintro⟨_,_,_,h⟩;rw[e,j2,hA,hf]at h;cases h
   .by_cases e2:j<=k%32
    .have e3:k%32-j=(k%32-(j+1))+1:=n'
     rw[e3,dT]
     by_cases C:k/32=d/\j+1<=k%32/\k%32<j+1+r.length/\KB (r.getD (k%32-(j+1)) .any)=bI
     .rw[if_pos C,if_pos ⟨C.1,e2,n',C.2.2.2⟩]
     .rw[if_neg C,if_neg];rintro⟨h1,h2,h3,U⟩;exact C ⟨h1,n',n',U⟩
    .rw[if_neg n',if_neg n']
  have put:∀(sz:Nat) (els:List AV) (x:AV),KB x=bI->IC x=cB ⟨sz,els⟩->Mi d j (x::r)=(Bn d+j,⟨sz,els⟩)::Mi d (j+1) r->AK k (GU ob (Mi d j (x::r)))=if k/32=d/\j<=k%32/\k%32<j+(r.length+1)/\KB ((x::r).getD (k%32-j) .any)=bI then IC ((x::r).getD (k%32-j) .any)else AK k ob:=by
   intro sz els x R J I;rw[I];simp only[GU];rw[ih,BP]
   by_cases e:k%32=j
   .rw[if_neg n']
    by_cases e1:k/32=d
    .rw[if_pos (by unfold Bn;omega),if_pos ⟨e1,n',n',by rw[e,j2];exact R⟩,e,j2];exact J.symm
    .rw[if_neg (by unfold Bn;omega),if_neg n']
   .by_cases e2:j<=k%32
    .have e3:k%32-j=(k%32-(j+1))+1:=n'
     rw[e3,dT,if_neg (c:=Bn d+j=k) (by unfold Bn;omega)]
     by_cases C:k/32=d/\j+1<=k%32/\k%32<j+1+r.length/\KB (r.getD (k%32-(j+1)) .any)=bI
     .rw[if_pos C,if_pos ⟨C.1,e2,n',C.2.2.2⟩]
     .rw[if_neg C,if_neg];rintro⟨h1,h2,h3,U⟩;exact C ⟨h1,n',n',U⟩
    .rw[if_neg n',if_neg (c:=Bn d+j=k) (by unfold Bn;omega),if_neg n']
  cases a
  case fresh sz els=>exact put sz els _ rfl rfl rfl
  case mem sz els ix=>exact put sz els _ rfl rfl rfl
  all_goals exact skip rfl
def TM{d:Nat}{r:AV}(j:(adopt d r).ok=bI)(k:Nat)(ob:Cx):AK k (GU ob (adopt d r).hs)=if k/32=d/\Jk r (k%32)=bI then IC (KS r (k%32))else AK k ob:=by
 have fA:(adopt d r).hs=[]->(∀i,Jk r i=bX)->AK k (GU ob (adopt d r).hs)=if k/32=d/\Jk r (k%32)=bI then IC (KS r (k%32))else AK k ob:=by
  intro J C;rw[J,C];simp[GU]
 cases r
 case tup cs=>
  simp only[adopt,mn]at j ⊢;rw[cO k d cs 1 ob n'];simp only[Jk,KS,hL,mn]
  by_cases e:k/32=d/\1<=k%32/\k%32<1+cs.length/\KB (cs.getD (k%32-1) .any)=bI
  .rw[if_pos e,if_pos ⟨e.1,e.2.1,n',e.2.2.2⟩]
  .rw[if_neg e,if_neg];rintro⟨C,h2,R,I⟩;exact e ⟨C,h2,n',I⟩
 case fresh sz els=>
  simp only[adopt,GU,BP,Jk,KS,KB,kc,mn,IC]
  by_cases e:k/32=d/\k%32=0
  .rw[if_pos e,if_pos (by unfold Bn;omega)]
  .rw[if_neg e,if_neg (by unfold Bn;omega)]
 case fn f a b=>exact fA (by simp[adopt,GW]) (fun i=>by simp[Jk,KB])
 case own=>simp[adopt,bad]at j
 case mem sz els ix=>
  simp only[adopt,GU,BP,Jk,KS,KB,kc,mn,IC]
  by_cases e:k/32=d/\k%32=0
  .rw[if_pos e,if_pos (by unfold Bn;omega)]
  .rw[if_neg e,if_neg (by unfold Bn;omega)]
 case ref=>simp[adopt,bad]at j
 case opt=>simp[adopt,bad]at j
 all_goals exact fA rfl (fun i=>by simp[Jk,KB])
def cM(d:Nat):∀(cs:List AV) (j i:Nat),i<cs.length->(Oq d j cs).getD i .any=match cs.getD i .any with |.fresh _ _=>.own (Bn d+(j+i)) |.mem _ _ _=>.ref (Bn d+(j+i)) 0 0|x=>x
 |[],_,_,h=>by simp at h
 |a::r,j,0,_=>by cases a<;>rfl
 | a::r,j,i+1,h=>by
  have C:=cM d r (j+1) i (by simpa using h);rw[dT,show j+(i+1)=j+1+i by omega,←C];cases a<;>rfl
def Uq(d:Nat):∀(cs:List AV) (j:Nat),(Oq d j cs).length=cs.length
 |[],_=>rfl
 | a::r,j=>by
  have C:=Uq d r (j+1);cases a<;>simp[Oq,C]
def VR.toSR1{S:Nat->Prop}{w:cS}{g:Gh}{ob:Cx}{v:Value}{a:AV}(h:VR S w v a):QX S w g ob v a:=by
 cases a<;>first|exact h|(cases h)
def ANn{S pend:Nat->Prop}{g:Gh}{w:cS}{tmps:Array Value}{vm ss ss':List Nat}{s:St}(h:Nf S pend g w tmps vm ss s)(a1:RR vm){dst:Option Nat}{D:Kc}(hd:Fb vm ss dst D=cB ss')
  (au:∀d,dst=cB d->d<tmps.size) {v:Value} {a:AV} (c:Bool) (hv:SR S w g s.ob v a):Nf S pend g w (Jo tmps dst v) vm ss' (BH s c a D):=by
 cases dst with
 | none=>
  cases D<;>simp[Fb]at hd
  subst hd;exact⟨h.home,h.vl,h.sl,h.vs,h.st,h.fit⟩
 | some d=>
  have aa:=au d rfl;have ad:=hv;cases D with
  |no=>simp[Fb]at hd
  | push=>
   simp only[Fb]at hd;split at hd
   .cases hd
   rename_i hn;simp only[fs]at hd;subst hd;have C:d ∉ vm:=fun c=>hn (.inl c)
   have R:d ∉ ss:=fun c=>hn (.inr c)
   refine⟨h.home,h.vl,by simpa[BH]using h.sl,fun i hi=>?_,fun i hi=>?_,fun t J=>?_⟩
   .have j:d≠vm.getD i 0:=fun e=>C (by rw[e,kf,geE hi];exact e5 hi)
    simp only[Jo,Ez j];exact h.vs i hi
   .cases i with
    |zero=>simp only[Jo,BH,hA,Kr aa];exact ad
    | succ i=>
     have ae:i<ss.length:=by simpa using hi
     have j:d≠ss.getD i 0:=fun e=>R (by rw[e,kf,geE ae];exact e5 ae)
     simp only[Jo,BH,dT,Ez j];exact h.st i ae
   .simp only[Jo,iS];rcases J with J|J
    .exact h.fit t (.inl J)
    .rcases eL.1 J with e|J
     .exact e▸aa
     .exact h.fit t (.inr J)
  | slot n=>
   simp only[Fb]at hd;split at hd
   .rename_i hn;simp only[fs]at hd;subst hd;obtain⟨C,R,ax⟩:=hn
    have U:n<ss.length:=by
     rcases hO n ss.length with h' |h'
     .exact h'
     .rw[hP h']at C;cases C
    have ab:ss.getD n 0=d:=by rw[kf,C];rfl
    refine⟨h.home,h.vl,by simpa[BH]using h.sl,fun i hi=>?_,fun i hi=>?_,fun t J=>?_⟩
    .have j:d≠vm.getD i 0:=fun e=>R (by rw[e,kf,geE hi];exact e5 hi)
     simp only[Jo,Ez j];exact h.vs i hi
    .by_cases I:n=i
     .subst I
      have:(s.st.set n a).getD n .any=a:=by
       rw[kf,kp (by rw[h.sl];exact U)];rfl
      simp only[Jo,BH,ab,Kr aa,this];exact ad
     .have j:d≠ss.getD i 0:=by
       intro e;have h1:ss[n]? = ss[i]?:=by rw[C,e,kf,geE hi];rfl
       exact I ((List.getElem?_inj U ax).1 h1)
      have:(s.st.set n a).getD i .any=s.st.getD i .any:=by
       rw[kf,hW I,kf]
      simp only[Jo,BH,Ez j,this];exact h.st i hi
    .simp only[Jo,iS];exact h.fit t J
   .cases hd
  | var n=>
   simp only[Fb]at hd;split at hd
   .rename_i hn;simp only[fs]at hd;subst hd;obtain⟨C,R,ay⟩:=hn
    have U:n<vm.length:=by
     rcases hO n vm.length with h' |h'
     .exact h'
     .rw[hP h']at C;cases C
    have ab:vm.getD n 0=d:=by rw[kf,C];rfl
    refine⟨h.home,by simpa[BH]using h.vl,h.sl,fun i hi=>?_,fun i hi=>?_,fun t J=>?_⟩
    .by_cases I:n=i
     .subst I
      have:(s.vs.set n a).getD n .any=a:=by
       rw[kf,kp (by rw[h.vl];exact U)];rfl
      simp only[Jo,BH,ab,Kr aa,this];exact ad
     .have j:d≠vm.getD i 0:=YW C ay hi I
      have:(s.vs.set n a).getD i .any=s.vs.getD i .any:=by
       rw[kf,hW I,kf]
      simp only[Jo,BH,Ez j,this];exact h.vs i hi
    .have j:d≠ss.getD i 0:=fun e=>R (by rw[e,kf,geE hi];exact e5 hi)
     simp only[Jo,Ez j];exact h.st i hi
    .simp only[Jo,iS];exact h.fit t J
   .cases hd
section
variable {S:Nat->Prop}{pend:Nat->Prop}{F Iow:Nat->Prop}{w0:cS}{g0:Gh}{o0:Cx}{g:Gh}{w w':cS}{tmps:Array Value}{ds:List hV}{vm ss ss':List Nat}{s:St}{P:eo}{o:j6}{key:Nat}
def Gk(g j:Gh)(κ:Nat->Nat)(key:Nat)(r:AV):Gh :=
 ⟨fun k=>if k/32=key/\Jk r (k%32)=bI then j.β (κ (k%32))else g.β k,fun k=>if k/32=key/\Jk r (k%32)=bI then j.cap (κ (k%32))else g.cap k⟩
def ip{d j:Nat}(C:j<32):(Bn d+j)/32=d/\(Bn d+j)%32=j:=by unfold Bn;omega
variable{S':Nat->Prop}{κ:Nat->Nat}{v:Value}{r:AV}
def RV.adopt{gb:Gh}{ab ob:Cx}(hv:RV S' w gb ab κ v r)(hS:∀b,S b->S' b)(J:(adopt key r).ok=bI):
  SR S w (Gk g gb κ key r) (GU ob (Go.Proofs.YtegmpdmpgmpiaaaGreatDoor.adopt key r).hs) v (Go.Proofs.YtegmpdmpgmpiaaaGreatDoor.adopt key r).v:=by
 have sub:∀{u a},VR S' w u a->VR S w u a:=fun h=>h.mono (dU _ _) fun b _ c=>hS b c
 have qs:∀{i:Nat} {u:Value} {sz:Nat} {els:List AV},i<32->Jk r i=bI->KS r i = .fresh sz els->yj S' w gb ab (κ i) u (.fresh sz els) ->
   QX S w (Gk g gb κ key r) (GU ob (Go.Proofs.YtegmpdmpgmpiaaaGreatDoor.adopt key r).hs) u (.own (Bn key+i)):=by
  intro i u sz els hi hf hp hu;obtain⟨h1,h2⟩:=ip (d:=key) hi;refine⟨⟨sz,els⟩,by rw[TM J,h1,h2,if_pos ⟨rfl,hf⟩,hp];rfl,?_⟩;simp only[Gk,h1,h2,hf,and_self,if_true];exact hu.2
 have aa:∀{i:Nat} {u:Value} {sz:Nat} {els:List AV} {ix:Nat},i<32->Jk r i=bI->KS r i = .mem sz els ix->yj S' w gb ab (κ i) u (.mem sz els ix) ->
   QX S w (Gk g gb κ key r) (GU ob (Go.Proofs.YtegmpdmpgmpiaaaGreatDoor.adopt key r).hs) u (.ref (Bn key+i) 0 0):=by
  intro i u sz els ix hi hf hp hu;obtain⟨h1,h2⟩:=ip (d:=key) hi;refine⟨⟨sz,els⟩,by rw[TM J,h1,h2,if_pos ⟨rfl,hf⟩,hp];rfl,?_⟩;simp only[Gk,h1,h2,hf,and_self,if_true];obtain⟨_,hl,e⟩:=hu;exact⟨by simp only[hl];omega,by rw[e,kB]⟩
 cases r
 case fresh sz els=>exact qs (i:=0) n' (by simp[Jk,KB]) rfl hv
 case mem sz els ix=>exact aa (i:=0) n' (by simp[Jk,KB]) rfl hv
 case tup cs=>
  obtain⟨vs,rfl,hn,au⟩:=hv;have hlen:cs.length<31:=by simpa[Go.Proofs.YtegmpdmpgmpiaaaGreatDoor.adopt]using J
  refine⟨vs,rfl,by rw[Uq,hn],fun j hj=>?_⟩;rw[Uq]at hj;rw[cM key cs 1 j hj];have I:=au j hj
  have U:KB (cs.getD j .any)=bI->Jk (.tup cs) (j+1)=true:=fun h=>by
   simp only[Jk,jm,h,kc,hL,mn];omega
  have C:KS (.tup cs) (j+1)=cs.getD j .any:=by simp[KS]
  split
  .rename_i sz els he;rw[he]at I C U;rw[mu 1 j];exact qs (i:=j+1) n' (U rfl) C I
  .rename_i sz els ix he;rw[he]at I C U;rw[mu 1 j];exact aa (i:=j+1) n' (U rfl) C I
  .rename_i ad R
   have:VR S' w (vs.getD j hY) (cs.getD j .any):=by
    revert I ad R;generalize cs.getD j .any=x;intro I ad R;cases x<;>first|exact I|exact absurd rfl (ad _ _)|exact absurd rfl (R _ _ _)
   exact(sub this).toSR1
 case fn f a b=>exact(sub hv).toSR
 case own=>simp[Go.Proofs.YtegmpdmpgmpiaaaGreatDoor.adopt,bad]at J
 case ref=>simp[Go.Proofs.YtegmpdmpgmpiaaaGreatDoor.adopt,bad]at J
 case opt=>simp[Go.Proofs.YtegmpdmpgmpiaaaGreatDoor.adopt,bad]at J
 all_goals exact(sub hv).toSR
def pQ{d k:Nat}(j:k/32=d):¬ Lb (clear s d).ob k:=by
 intro⟨hm,hg⟩;unfold Go.Proofs.YtegmpdmpgmpiaaaGreatDoor.clear at hg;rw[AM]at hg;split at hg
 .simp[Ij,j]at hg
 .rename_i C;exact Qy (by simpa using C) hg j
def Nf.adopt(h:Nf S C' g w tmps vm ss s)(a6:RR vm){dst:Option Nat}{D:Kc}(hd:Fb vm ss dst D=cB ss')(au:∀d,dst=cB d->d<tmps.size){c:Bool}
   {gb:Gh} {ax:Cx}    (hv:RV S' w gb ax κ v r) (hS:∀b,S b->S' b)
  (hH:∀i,Kd r i->∀sz els,IC (KS r i)=cB ⟨sz,els⟩->Hy S w (gb.β (κ i)) (gb.cap (κ i)) sz els) (J:(EH s key D (IJ c (adopt key r))).ok=bI) :
  Nf S C' (Gk g gb κ key r) w (Jo tmps dst v) vm ss' (EH s key D (IJ c (Go.Proofs.YtegmpdmpgmpiaaaGreatDoor.adopt key r)))/\s.ok=bI/\c=bI /\
  (∀k C,AK k (EH s key D (IJ c (Go.Proofs.YtegmpdmpgmpiaaaGreatDoor.adopt key r))).ob=cB C->(k/32=key/\Jk r (k%32)=bI)\/(¬ (k/32=key/\Jk r (k%32)=bI)/\AK k s.ob=cB C)):=by
 have ao:s.ok=bI/\c=bI/\(Go.Proofs.YtegmpdmpgmpiaaaGreatDoor.adopt key r).ok=bI:=by
  revert J;unfold EH IJ;cases(Go.Proofs.YtegmpdmpgmpiaaaGreatDoor.adopt key r).hs with
  |nil=>simp only[VW];intro J;cases D<;>simpa[BH]using J
  | cons p q=>
   simp only[VW,Tq];have:(Go.Proofs.YtegmpdmpgmpiaaaGreatDoor.clear s key).ok=s.ok:=by unfold Go.Proofs.YtegmpdmpgmpiaaaGreatDoor.clear;rw[AM];split<;>rfl
   intro J;cases D<;>simpa[BH,this]using J
 obtain⟨h1,h2,h3⟩:=ao
 have ay:∃s1:St,EH s key D (IJ c (Go.Proofs.YtegmpdmpgmpiaaaGreatDoor.adopt key r))=BH { s1 with ob:=GU s1.ob (Go.Proofs.YtegmpdmpgmpiaaaGreatDoor.adopt key r).hs } (c&&(Go.Proofs.YtegmpdmpgmpiaaaGreatDoor.adopt key r).ok) (Go.Proofs.YtegmpdmpgmpiaaaGreatDoor.adopt key r).v D/\Nf S C' g w tmps vm ss s1 /\
   (∀k C,AK k s1.ob=cB C->AK k s.ob=cB C)/\(∀k,k/32=key->Jk r (k%32)=bI->¬ Lb s1.ob k):=by
  unfold EH IJ;cases ba:(Go.Proofs.YtegmpdmpgmpiaaaGreatDoor.adopt key r).hs with
  | nil=>
   refine⟨s,rfl,h,fun k C j=>j,fun k hk hf=>?_⟩;exfalso;have:=TM h3 k [];rw[ba,if_pos ⟨hk,hf⟩]at this;simp only[GU,AK]at this
   have ab:KB (KS r (k%32))=bI:=by
    revert hf;cases r<;>simp[Jk,KS]<;>(try(intro _ h;exact h))<;>(try(intro _ _ h;exact h))
   revert this ab;generalize KS r (k%32)=x;intro this ab;cases x<;>simp[KB,IC]at ab this
  |cons p q=>exact⟨Go.Proofs.YtegmpdmpgmpiaaaGreatDoor.clear s key,rfl,h.clear key,fun k C j=>jb j,fun k hk _=>pQ hk⟩
 obtain⟨s1,e1,I,aj,aa⟩:=ay;have R:=TM (d:=key) h3
 have U:∀k,Tm g (Gk g gb κ key r) s1.ob (GU s1.ob (Go.Proofs.YtegmpdmpgmpiaaaGreatDoor.adopt key r).hs) k:=by
  intro k C j;have hn:¬ (k/32=key/\Jk r (k%32)=bI):=fun e=>aa k e.1 e.2 ⟨C,j⟩
  exact⟨C,by rw[R,if_neg hn];exact j,rfl,rfl,by simp[Gk,hn],by simp[Gk,hn]⟩
 have az:Nf S C' (Gk g gb κ key r) w tmps vm ss { s1 with ob:=GU s1.ob (Go.Proofs.YtegmpdmpgmpiaaaGreatDoor.adopt key r).hs }:=by
  refine⟨fun k C _ j=>?_,I.vl,I.sl,fun i hi=>(I.vs i hi).mono (dU _ _) (fun _ _ c=>c) fun k _=>U k,fun i hi=>(I.st i hi).mono (dU _ _) (fun _ _ c=>c) fun k _=>U k,I.fit⟩;simp only[R]at j
  by_cases e:k/32=key/\Jk r (k%32)=bI
  .rw[if_pos e]at j;simp only[Gk,if_pos e];exact hH _ (jM.1 e.2) C.sz C.els j
  .rw[if_neg e]at j;simp only[Gk,if_neg e];exact I.home k C (fun c=>c) j
 have ae:SR S w (Gk g gb κ key r) (GU s1.ob (Go.Proofs.YtegmpdmpgmpiaaaGreatDoor.adopt key r).hs) v (Go.Proofs.YtegmpdmpgmpiaaaGreatDoor.adopt key r).v:=hv.adopt hS h3;refine⟨?_,h1,h2,fun k C j=>?_⟩
 .rw[e1];have:=ANn (S:=S) az a6 hd au (c&&(Go.Proofs.YtegmpdmpgmpiaaaGreatDoor.adopt key r).ok) ae;exact this
 .rw[e1]at j;have a1:(BH { s1 with ob:=GU s1.ob (Go.Proofs.YtegmpdmpgmpiaaaGreatDoor.adopt key r).hs } (c&&(Go.Proofs.YtegmpdmpgmpiaaaGreatDoor.adopt key r).ok) (Go.Proofs.YtegmpdmpgmpiaaaGreatDoor.adopt key r).v D).ob=GU s1.ob (Go.Proofs.YtegmpdmpgmpiaaaGreatDoor.adopt key r).hs:=by cases D<;>rfl
  rw[a1,R]at j
  by_cases e:k/32=key/\Jk r (k%32)=bI
  .exact .inl e
  .rw[if_neg e]at j;exact .inr ⟨e,aj k C j⟩
end
variable{s:St}
def ABq{d:Nat}:(clear s d).ok=s.ok:=by unfold clear;rw[AM];split<;>rfl
variable{a:AV}{D:Kc}
def VX{c:Bool}(h:(BH s c a D).ok=bI):s.ok=bI/\c=bI:=by cases D<;>simpa[BH]using h
def JJ{key:Nat}{m:Mk}(h:(EH s key D m).ok=bI):s.ok=bI/\m.ok=bI:=by
 unfold EH at h;cases hm:m.hs with
 |nil=>rw[hm]at h;exact VX h
 | cons p q=>
  rw[hm]at h;simp only[VW]at h;have:=VX h;simpa[Tq,ABq]using this
variable{k:Nat}
def oq{j:Nat}:AK j (k7 s k (AK k s.ob)).ob=if k=j then fA else AK j s.ob:=by
 cases C:AK k s.ob with
 | none=>
  simp only[k7]
  by_cases e:k=j
  .rw[if_pos e,←e,C]
  .rw[if_neg e]
 |some h=>simp only[k7,FH]
def Ph{j:Nat}:∀(ks:List Nat) (s:St),AK j (et s ks).ob=if j∈ks then fA else AK j s.ob
 |[],s=>by simp[et]
 | k::r,s=>by
  simp only[et];rw[Ph r,oq]
  by_cases I:j∈r
  .simp[I]
  .by_cases C:k=j
   .simp[C]
   .simp[I,C,Ne.symm C]
variable{ob:Cx}{ms:List Md}
def ADY{I:List AV}{hm:Hm}(C:ms.length=I.length)(ab:GN ms (Bh ob ms I)=bI)(hg:AK k (BN 0 (Bh ob ms I))=cB hm):
  ∃j k0,k=AF j/\j<I.length/\ms.getD j .bor ≠ .bor/\AK k0 ob=cB hm/\k0∈(I.getD j .any).key1/\kk I j=k0/\k0∈Bi ms I:=by
 obtain⟨_,J⟩:=Qg _ _ ab;have U:=MZ ob ms I C;rw[U]at J;obtain⟨j,rfl,hf⟩:=Kp hg
 have R:j<I.length:=by
  rcases hO j I.length with h' |h'
  .exact h'
  .rw[kf,hP (by rw[U];exact h')]at hf;simp[IC]at hf
 rw[Ir _ _ _ _ C R]at hf;have hs:=J j R;rw[Ir _ _ _ _ C R]at hs;obtain⟨h1,k0,h2,h3,h4⟩:=ZO hf (fun e=>hs.1 e);refine⟨j,k0,rfl,R,h1,h3,h4,?_,Mz ms I j C R h1 k0 h4⟩;unfold kk;rcases h2 with⟨e,_⟩|⟨_,e,_⟩<;>rw[e]<;>rfl
def am:∀(ms:List Md) (C:List AV) {k:Nat},ms.length=C.length->k∈Bi ms C->k ∉ JK ms C->∃j,j<C.length/\ms.getD j .bor = .io/\k∈(C.getD j .any).key1
 |[],[],k,_,h,_=>by simp[Bi]at h
 |[],_::_,_,h,_,_=>by simp at h
 |_::_,[],_,h,_,_=>by simp at h
 | m::ms,a::C,k,R,h,I=>by
  have J:=@am ms C k (by simpa using R)
  have up:(∃j,j<C.length/\ms.getD j .bor = .io/\k∈(C.getD j .any).key1)->∃j,j<(a::C).length/\(m::ms).getD j .bor = .io/\k∈((a::C).getD j .any).key1:=by
   rintro⟨j,h1,h2,U⟩;exact⟨j+1,by simpa using h1,by simpa using h2,by simpa using U⟩
  cases m
  .exact up (J (by simpa[Bi]using h) (by simpa[JK]using I))
  .simp only[Bi,bS]at h;rcases h with h|h
   .exact⟨0,p',rfl,by simpa using h⟩
   .exact up (J h (by simpa[JK]using I))
  .simp only[Bi,JK,bS,not_or]at h I;rcases h with h|h
   .exact absurd h I.1
   .exact up (J h I.2)
def getElem?_io{ms:List Md}{j:Nat}(h:ms.getD j .bor = .io):ms[j]? = cB .io:=by
 rw[kf]at h;cases hm:ms[j]? with
 |none=>rw[hm]at h;cases h
 |some m=>rw[hm]at h;simpa using h
def xK(h:AAU ms=bI)(j:Nat):ms.getD j .bor ≠ .io:=by
 intro e;have C:=getElem?_io e;simp only[AAU,bR]at h;have:=h .io (j4 C);simp at this
variable{S S':Nat->Prop}{w:cS}{g:Gh}{v:Value}
def oy(j:SX a=bI)(h:yj S w g ob k v a):yj S' w g ob k v a:=by
 cases a
 case fresh sz els=>exact h
 case mem sz els ix=>exact h
 all_goals first|exact WE j h|(simp[SX,Kb]at j)
variable{r:AV}
def uh{κ:Nat->Nat}(J:PP r=bI)(h:RV S w g ob κ v r):RV S' w g ob κ v r:=by
 cases r
 case tup U=>
  obtain⟨vs,rfl,R,I⟩:=h;simp only[PP,bR]at J;exact⟨vs,rfl,R,fun j C=>oy (J _ (by rw[kf,geE C];exact e5 C)) (I j C)⟩
 all_goals
  simp only[RV]at h ⊢;exact oy J h
variable{sz:Nat}{els:List AV}
def jO(J:PP r=bI){i:Nat}(hi:Kd r i)(I:IC (KS r i)=cB ⟨sz,els⟩):∀i,i<els.length->((els.getD i .any).cells).all Kb=bI:=by
 have U:∀{x:AV},SX x=bI->IC x=cB ⟨sz,els⟩->SX (.fresh sz els)=bI:=by
  intro x hx he;cases x<;>simp[IC]at he<;>obtain⟨rfl,rfl⟩:=he<;>exact hx
 have key:SX (.fresh sz els)=bI:=by
  cases r
  case tup ab=>
   obtain⟨j,rfl,C,_⟩:=hi;simp only[KS,jm]at I;simp only[PP,bR]at J;exact U (J _ (by rw[kf,geE C];exact e5 C)) I
  case fresh a b=>exact U (x:=.fresh a b) J I
  case mem a b c=>exact U (x:=.mem a b c) J I
  all_goals
   obtain⟨_,R⟩:=hi;simp[KB]at R
 intro j C;simp only[SX,bR]at key;exact key _ (by rw[kf,geE C];exact e5 C)
def QM{b cap:Nat}(hf:∀i,i<els.length->((els.getD i .any).cells).all Kb=bI)(h:Hy S w b cap sz els):Hy S' w b cap sz els:=by
 refine⟨h.pos,h.len,h.cells,fun U=>?_⟩;obtain⟨arr,T,fz,R,I,hs,J⟩:=h.row U;refine⟨arr,T,fz,R,I,hs,fun i j hi hj=>WE ?_ (J i j hi hj)⟩;have C:=hf i hi;have h2:=(h.cells i hi).1;revert C h2;generalize(els.getD i .any).cells=cs;intro C h2;simp only[bR]at C;exact C _ (by rw[kf,geE n'];exact e5 _)
def RV.fresh{S:Nat->Prop}{w:cS}{g:Gh}{ob:Cx}{κ:Nat->Nat}{v:Value}{r:AV}(h:RV S w g ob κ v r){i:Nat}(hi:Kd r i):∃sz els,IC (KS r i)=cB ⟨sz,els⟩/\AK (κ i) ob=cB ⟨sz,els⟩:=by
 cases r
 case tup U=>
  obtain⟨vs,rfl,hn,I⟩:=h;obtain⟨j,rfl,R,C⟩:=hi;have J:=I j R;simp only[KS,jm];revert J C;generalize U.getD j .any=x;intro C J;cases x<;>simp[KB]at C<;>exact⟨_,_,rfl,J.1⟩
 case fresh sz els=>
  obtain⟨rfl,_⟩:=hi;exact⟨sz,els,rfl,h.1⟩
 case mem sz els ix=>
  obtain⟨rfl,_⟩:=hi;exact⟨sz,els,rfl,h.1⟩
 all_goals
  obtain⟨_,C⟩:=hi;simp[KB]at C
section
variable {F Iow:Nat->Prop}{w0:cS}{g0:Gh}{o0:Cx}{g:Gh}{w w':cS}{tmps:Array Value}{ds:List hV}{vm ss ss':List Nat}{s:St}{P:eo}{o:j6}{key:Nat}
def FX.call(h:FX F Iow w0 g0 o0 g w tmps vm ss s)(ga:RR vm){dst:Option Nat}{D:Kc}(hd:Fb vm ss dst D=cB ss')(e8:∀d,dst=cB d->d<tmps.size){f:lu}{C:Ao}(hC:Cd P f C)
  {bz:Array Value} {I:List AV} (eu:bz.size=I.length) (hv:∀j,j<I.length->SR (AR F g s.ob) w g s.ob (bz.getD j hY) (I.getD j .any)) (ba:(PT s key D I (cB C)).ok=bI) :
  DJ P f bz w fun e w'=>∃v g',e = .returned v/\FX F Iow w0 g0 o0 g' w' (Jo tmps dst v) vm ss' (PT s key D I (cB C)):=by
 simp only[PT,QQ]at ba ⊢;generalize hq:C.F (Bh s.ob C.modes I)=q at ba ⊢;obtain⟨cw,ct⟩:=JJ ba;simp only[IJ,hL,beq_iff_eq]at ct;obtain⟨⟨⟨df,hlen,c8,fa⟩,ev⟩,cd⟩:=ct
 have h1:FX F Iow w0 g0 o0 g w tmps vm ss (Uv C s I):=by
  unfold Uv;rw[AM];split
  .exact h
  .exact h.freezeAll _
 have b0:∀k hm,AK k (Uv C s I).ob=cB hm->AK k s.ob=cB hm/\(C.flat=bX->k ∉ Fp C.modes I):=by
  intro k hm J;unfold Uv at J;rw[AM]at J;split at J
  .rename_i e;exact⟨J,fun e2=>by rw[e]at e2;cases e2⟩
  .rw[Ph]at J;split at J
   .cases J
   .rename_i e;exact⟨J,fun _=>e⟩
 have bb:∀k hm,k∈Bi C.modes I->AK k s.ob=cB hm->AK k (Uv C s I).ob=cB hm:=by
  intro k hm hk J;unfold Uv;rw[AM];split
  .exact J
  .rw[Ph,if_neg (fun e=>cK fa hk e)];exact J
 generalize Uv C s I=s1 at h1 b0 bb ba cw ⊢;have ea:∀k,Mo g s1.ob k->Mo g s.ob k:=fun k ⟨⟨hm,J⟩,hp⟩=>⟨⟨hm,(b0 k hm J).1⟩,hp⟩
 have dw:∀b,AR F g s1.ob b->AR F g s.ob b:=fun b hb=>Jc (fun k ⟨hm,J⟩=>⟨hm,(b0 k hm J).1⟩) hb
 let Fc:Nat->Prop:=fun b=>AR F g s1.ob b/\∀k,(k∈Bi C.modes I\/k∈Fp C.modes I)->Mo g s.ob k->g.β k≠b
 have en:=h.toFR.args (Fc:=Fc) eu hv c8 fa hlen df (fun b hb=>⟨dw b hb.1,hb.2⟩);have e7:=MZ s.ob C.modes I hlen;obtain⟨be,hinv⟩:=hC.2 Fc (Mc g I) w (Bh s.ob C.modes I) bz df (by rw[eu,e7]) (by rw[e7];exact en) (by rw[hq];exact ev);rw[hq]at be hinv;refine hinv.mono fun e w' he=>?_
 obtain⟨v,gb,a8,κ,rfl,B⟩:=he
 have gk:∀j,(Mc g I).β (AF j)=g.β (kk I j)/\(Mc g I).cap (AF j)=g.cap (kk I j):=fun j=>by
  simp[Mc,Vc]
 have ax:∀k,Mo (Mc g I) (BN 0 (Bh s.ob C.modes I)) k->∃k0,k0∈Bi C.modes I/\Mo g s1.ob k0/\g.β k0=(Mc g I).β k:=by
  rintro k ⟨⟨hm,J⟩,hp⟩;obtain⟨j,k0,rfl,hj,_,ho,_,ek,hio⟩:=ADY hlen df J;rw[(gk j).2,ek]at hp;exact⟨k0,hio,⟨⟨hm,bb k0 hm hio ho⟩,hp⟩,by rw[(gk j).1,ek]⟩
 have ad:AD (AR F g s1.ob) w w':=B.same.mono fun b _ ⟨k,hk,e⟩=>by
  obtain⟨k0,_,R,e0⟩:=ax k hk;exact .inr ⟨k0,R,by rw[e0,e]⟩
 have dc:=B.same.size
 let SF:Nat->Prop:=fun b=>F b\/(∃k,Mo g s1.ob k/\k ∉ JK C.modes I/\g.β k=b)\/∃i,Kd q.r i/\0<gb.cap (κ i)/\gb.β (κ i)=b
 have aj:∀b,b<w.heap.size->SF b->AR F g s1.ob b:=by
  rintro b hb (hf|⟨k,hk,_,e⟩|⟨i,hi,hp,e⟩)
  .exact .inl hf
  .exact .inr ⟨k,hk,e⟩
  .obtain⟨sz,els,_,J⟩:=B.val.fresh hi;rcases B.hio (κ i) ⟨⟨_,J⟩,hp⟩with cl|⟨k',U,e'⟩
   .omega
   .obtain⟨k0,_,R,e0⟩:=ax k' U;exact .inr ⟨k0,R,by rw[e0,e',e]⟩
 have c7:∀k,k∈Bi C.modes I->k ∉ JK C.modes I->Mo g s1.ob k->∃j,C.modes[j]? = cB .io/\gb.β (AF j)=g.β k/\Mo gb a8 (AF j):=by
  intro k hk hm R;obtain⟨j,hj,ay,b3⟩:=am C.modes I hlen hk hm;obtain⟨sz,e0,els,bh,e9,cc,hb,eg⟩:=B.out j (getElem?_io ay)
  have ew:kk I j=k:=by
   unfold kk;revert b3;generalize I.getD j .any=x;intro b3;cases x<;>simp[AV.key1]at b3 ⊢<;>exact b3.symm
  refine⟨j,getElem?_io ay,by rw[hb,(gk j).1,ew],⟨_,cc⟩,?_⟩;rw[eg,(gk j).2,ew];exact R.2
 have hh:C.flat=bX->∀k,Mo g s1.ob k->k ∉ Bi C.modes I->Fc (g.β k):=by
  intro ab k R hk;refine⟨.inr ⟨k,R,rfl⟩,fun k' U ca e=>?_⟩;have:=h.inj k' k ca (ea k R) e;subst this;rcases U with U |U
  .exact hk U
  .obtain⟨hm,J⟩:=R.1;exact(b0 k' hm J).2 ab U
 have fi:∀b,F b->Fc b:=fun b hb=>⟨.inl hb,fun k _ R e=>h.nF k R (by rw[e];exact hb)⟩
 have hSub:C.flat=bX->∀b,SF b->AR Fc gb a8 b:=by
  rintro ab b (hf|⟨k,hk,hm,e⟩|⟨i,hi,hp,e⟩)
  .exact .inl (fi b hf)
  .by_cases hio:k∈Bi C.modes I
   .obtain⟨j,_,hb,R⟩:=c7 k hio hm hk;exact .inr ⟨AF j,R,by rw[hb,e]⟩
   .exact .inl (e▸hh ab k hk hio)
  .obtain⟨sz,els,_,J⟩:=B.val.fresh hi;exact .inr ⟨κ i,⟨⟨_,J⟩,hp⟩,e⟩
 have h5:Nf SF (fun k=>k∈Bi C.modes I) g w' tmps vm ss s1:=by
  refine⟨fun k hm hk J=>(h1.home k hm J).mono ad (fun hp=>?_) aj,h1.vl,h1.sl,fun i hi=>(h1.vs i hi).mono ad aj fun k _ hm J=>⟨hm,J,rfl,rfl,rfl,rfl⟩,
   fun i hi=>(h1.st i hi).mono ad aj fun k _ hm J=>⟨hm,J,rfl,rfl,rfl,rfl⟩,h1.fit⟩
  refine B.same.block _ ((h1.home k hm J).lt hp) ?_;rintro⟨k',U,e⟩;obtain⟨k0,hio,R,e0⟩:=ax k' U;exact hk (h1.inj k k0 ⟨⟨hm,J⟩,hp⟩ R (by rw[e0,e])▸hio)
 have hc:dh SF g w' s1.ob C.modes I q.outs:=by
  intro j hj ay
  have ab:C.flat=bX:=by
   cases ab:C.flat with
   |false=>rfl
   |true=>exact absurd ay (xK (hC.1 ab) j)
  obtain⟨sz,e0,els,bh,e9,cc,hb,eg⟩:=B.out j (getElem?_io ay)
  have hf:IC (Ey s.ob (C.modes.getD j .bor) (I.getD j .any))=cB ⟨sz,e0⟩:=by
   rw[←Ir s.ob C.modes I j hlen hj];rcases bh with⟨e,_⟩|⟨_,_,e,_⟩<;>rw[e]<;>rfl
  obtain⟨_,k0,h2,h3,h4⟩:=ZO hf (fun e=>by rw[ay]at e;cases e);have hio:=Mz C.modes I j hlen hj (by rw[ay];decide) k0 h4;have ek:kk I j=k0:=by unfold kk;rcases h2 with⟨e,_⟩|⟨_,e,_⟩<;>rw[e]<;>rfl
  have hH:=(B.home (AF j) ⟨sz,els⟩ cc).mono (dU (AR Fc gb a8) w') (fun _=>rfl) (S':=SF) fun b _ hb=>hSub ab b hb
  rw[hb,eg,(gk j).1,(gk j).2,ek]at hH;have fx:=bb k0 _ hio h3;have az:=bh;rw[Ir s.ob C.modes I j hlen hj]at az;refine⟨k0,⟨sz,e0⟩,sz,els,?_,fx,rfl,e9,hH⟩;rcases h2 with⟨e,e2⟩|⟨i0,e,e2⟩
  .rcases az with⟨_,e3⟩|⟨_,_,e4,_⟩
   .exact .inl ⟨e,e3⟩
   .rw[e2]at e4;cases e4
  .rcases az with⟨e4,_⟩|⟨_,i',_,e3⟩
   .rw[e2]at e4;cases e4
   .exact .inr ⟨i0,i',e,e3⟩
 obtain⟨hy,fy,db⟩:=NS C.modes I q.outs h5 hlen hc c8 cw;have fp:Nf SF C' g w' tmps vm ss (Ak s1 C.modes I q.outs):=hy.pend' fun k _ hp=>hp.2 hp.1
 have b9:∃S':Nat->Prop,RV S' w' gb a8 κ v q.r/\∀b,SF b->S' b:=by
  cases ab:C.flat with
  |true=>exact⟨SF,uh (be ab) B.val,fun _ c=>c⟩
  |false=>exact⟨_,B.val,hSub ab⟩
 obtain⟨S',b9,ha⟩:=b9;generalize Ak s1 C.modes I q.outs=s2 at ba fp db ⊢;generalize((GN C.modes (Bh s.ob C.modes I)&&(C.modes.length==I.length&&(FA (Bi C.modes I)&&apart (Bi C.modes I) (Fp C.modes I))))&&q.ok)=c0 at ba ⊢
 obtain⟨bs,_,_,ej⟩:=fp.adopt ga hd e8 b9 ha (fun i hi sz els hp=>by
  obtain⟨ih,h9,e1,e2⟩:=B.val.fresh hi;rw[hp]at e1;cases e1;cases ab:C.flat with
  |true=>exact QM (jO (be ab) hi hp) (B.home (κ i) ⟨sz,els⟩ e2)
  |false=>exact(B.home (κ i) ⟨sz,els⟩ e2).mono (dU (AR Fc gb a8) w') (fun _=>rfl) (S':=SF) fun b _ hb=>hSub ab b hb) ba
 refine⟨v,Gk g gb κ key q.r,rfl,?_⟩;generalize EH s2 key D (IJ c0 (adopt key q.r))=s3 at bs ej ⊢
 have cb:∀k,Mo (Gk g gb κ key q.r) s3.ob k->(k/32=key/\Kd q.r (k%32)/\(Gk g gb κ key q.r).β k=gb.β (κ (k%32))/\Mo gb a8 (κ (k%32))) \/
   (k ∉ JK C.modes I/\Mo g s1.ob k/\(Gk g gb κ key q.r).β k=g.β k):=by
  rintro k ⟨⟨hm,J⟩,hp⟩;rcases ej k hm J with e|⟨e,ed⟩
  .have b7:=jM.1 e.2;obtain⟨sz,els,_,cc⟩:=B.val.fresh b7;simp only[Gk,if_pos e]at hp;exact .inl ⟨e.1,b7,by simp only[Gk,if_pos e],⟨_,cc⟩,hp⟩
  .obtain⟨b6,h0,ef,_⟩:=db k hm ed;simp only[Gk,if_neg e]at hp;exact .inr ⟨b6,⟨⟨h0,ef⟩,hp⟩,by simp only[Gk,if_neg e]⟩
 have b4:∀b,AR F (Gk g gb κ key q.r) s3.ob b->SF b:=by
  rintro b (hf|⟨k,hk,e⟩)
  .exact .inl hf
  .rcases cb k hk with⟨_,b7,e2,R⟩|⟨b6,R,e2⟩
   .exact .inr (.inr ⟨_,b7,R.2,by rw[←e2,e]⟩)
   .exact .inr (.inl ⟨k,R,b6,by rw[←e2,e]⟩)
 have c6:∀k k',(Kd q.r (k%32)/\Mo gb a8 (κ (k%32)))->(k' ∉ JK C.modes I/\Mo g s1.ob k')->gb.β (κ (k%32))≠g.β k':=by
  rintro k k' ⟨b7,R⟩ ⟨b6,ca⟩ e
  by_cases hio:k'∈Bi C.modes I
  .obtain⟨j,ay,hb,gf⟩:=c7 k' hio b6 ca;exact B.κio _ j b7 ay (B.inj _ _ R gf (by rw[e,hb]))
  .rcases B.hio _ R with cl|⟨k2,gr,e2⟩
   .obtain⟨⟨hm,J⟩,hp⟩:=ca;have:=(h1.home k' hm J).lt hp;rw[e]at cl;omega
   .obtain⟨k0,e6,gn,e0⟩:=ax k2 gr;have:=h1.inj k0 k' gn ca (by rw[e0,e2,e]);exact hio (this▸e6)
 have gu:FR F (Gk g gb κ key q.r) w' (Jo tmps dst v) vm ss' s3:=by
  refine⟨fun k hm J=>(bs.home k hm (fun c=>c) J).mono (dU SF w') (fun _=>rfl) fun b _ hb=>b4 b hb,fun k k' hk U e=>?_,fun k hk=>?_,fun b hb=>Nat.lt_of_lt_of_le (h1.fb b hb) dc,bs.vl,bs.sl,
   fun i hi=>(bs.vs i hi).mono (dU SF w') (fun b _ hb=>b4 b hb) fun k _ hm J=>⟨hm,J,rfl,rfl,rfl,rfl⟩,fun i hi=>(bs.st i hi).mono (dU SF w') (fun b _ hb=>b4 b hb) fun k _ hm J=>⟨hm,J,rfl,rfl,rfl,rfl⟩,bs.fit,h1.tab.mono ad fun b hb c=>aj b hb (b4 b c)⟩
  .rcases cb k hk with⟨d1,f1,e1,l1⟩|⟨n1,l1,e1⟩<;>rcases cb k' U with⟨d2,f2,e2,l2⟩|⟨n2,l2,e2⟩<;>rw[e1,e2]at e
   .have:=B.κinj _ _ f1 f2 (B.inj _ _ l1 l2 e);omega
   .exact absurd e (c6 k k' ⟨f1,l1⟩ ⟨n2,l2⟩)
   .exact absurd e.symm (c6 k' k ⟨f2,l2⟩ ⟨n1,l1⟩)
   .exact h1.inj k k' l1 l2 e
  .rcases cb k hk with⟨d1,f1,e1,l1⟩|⟨n1,l1,e1⟩<;>rw[e1]
   .exact fun hf=>B.nF _ l1 (fi _ hf)
   .exact h1.nF k l1
 refine⟨gu,h1.same.into (B.same.mono fun b _ ⟨k,hk,e⟩=>?_),fun k hk=>?_,h1.fio,fun k hm hk J=>?_⟩
 .obtain⟨k0,_,R,e0⟩:=ax k hk;rw[←e,←e0];exact h1.hio k0 R
 .rcases cb k hk with⟨d1,f1,e1,l1⟩|⟨n1,l1,e1⟩<;>rw[e1]
  .rcases B.hio _ l1 with cl|⟨k',U,e'⟩
   .exact .inl (Nat.le_trans h1.same.size cl)
   .obtain⟨k0,_,R,e0⟩:=ax k' U;rw[←e',←e0];exact h1.hio k0 R
  .exact h1.hio k l1
 .rcases ej k hm J with e|⟨e,ed⟩
  .exfalso;have hB:=e.2;rw[hk]at hB;have dx:∀cs,q.r = .tup cs->cs.length<31:=fun cs gv=>by rw[gv]at cd;simpa[adopt]using cd
   revert hB dx;generalize q.r=x;intro hB dx;cases x<;>simp[Jk]at hB
   have:=dx _ rfl;omega
  .obtain⟨b6,h0,ef,hz,R⟩:=db k hm ed;obtain⟨hn,a1,a2,a3,a4⟩:=h1.par k h0 hk ef;refine⟨hn,a1,by rw[hz,a2],n',fun e2=>?_⟩;obtain⟨b1,b2⟩:=a4 n';simp only[Gk,if_neg e];exact⟨b1,b2⟩
end
open Go Go.RowKit
def Sm(vm ss:List Nat)(f:Nat)(args:List Src):Op->Bool
 |.call { callee:=.value (.func f'),args:=xs,argTypes:=_ }=>f'==f&&Rk vm ss xs.toList args
 |_=>bX
def Xr(vm ss:List Nat)(j:Src)(args:List Src):Op->Bool
 |.call { callee:=.value y,args:=xs,argTypes:=_ }=>Bb vm ss y j&&Rk vm ss xs.toList args
 |_=>bX
def Ls(P:eo)(T:Le):Prop:=∀f C,T f=cB C->Cd P f C
section
variable {F Iow:Nat->Prop}{w0:cS}{g0:Gh}{o0:Cx}{g:Gh}{w w':cS}{tmps:Array Value}{ds:List hV}{vm ss ss':List Nat}{s:St}{P:eo}{o:j6}{key:Nat}{T:Le}{D:Kc}
 {K:Act->cS->Prop} {Q:m'->Act->cS->Prop}
def FX.unS(h:FX F Iow w0 g0 o0 g w tmps vm ss s):FX F Iow w0 g0 o0 g w tmps vm ss (unS s):=⟨h.toFR.unS,h.same,h.hio,h.fio,h.par⟩
def FX.setOk(h:FX F Iow w0 g0 o0 g w tmps vm ss s)(ok:Bool):FX F Iow w0 g0 o0 g w tmps vm ss { s with ok:=ok }:=⟨h.toFR.setOk ok,h.same,h.hio,h.fio,h.par⟩
def Kx{f:lu}{j:Array Value}{R:Ending->cS->Prop}(h:DJ P f j w R){a:Act}(J:∀v w',R (.returned v) w'->K (a.put o.dst v) w')(hp:∀c w',¬ R (.panicked c) w')(C:∀w',¬ R .outgrown w'):
  o.upon P a K Q ((lJ f j).run P w):=by
 unfold DJ at h;split at h
 .rename_i v w' e;rw[e];exact J _ _ h
 .rename_i f' I w' e;rw[e,Oper.upon_enter];refine Calls.mono h fun en U he=>?_
  cases en with
  |returned v=>exact J _ _ he
  |panicked c=>exact(hp _ _ he).elim
  |outgrown=>exact(C _ he).elim
 .exact h.elim
def Qi(tmps:Array Value)(ds:List hV)(dst:Option Nat)(v:Value):({ tmps:=tmps,defers:=ds }:Act).put dst v=⟨Jo tmps dst v,ds⟩:=by cases dst<;>rfl
def Lz(tmps:Array Value)(dst:Option Nat)(v:Value):(Jo tmps dst v).size=tmps.size:=by cases dst<;>simp[Jo]
def Kt{ρ:ln->Value}{y:ln}{xs:Array ln}{j:Array TypeId}{f:lu}{v1 v2:Array Value}(C:ρ y = .func (.func f) v1 v2)(I:o.op = .call { callee:=.value y,args:=xs,argTypes:=j }):
  (fm ρ o).run P w=(lJ f (v1++xs.map ρ++v2)).run P w:=by
 unfold fm;simp only[I,resolve,C,Deferred.ofValue,invoke,Sem.run_bind,Sem.run_pure,Result.andThen_ok]
def Wz(hT:Ls P T)(h:FX F Iow w0 g0 o0 g w tmps vm ss s)(ad:RR vm)(hd:Fb vm ss o.dst D=cB ss')(U:∀d,o.dst=cB d->d<tmps.size){c:Cal}{J:Array Value}
  (ab:J.size=c.args.length) (hv:∀j,j<c.args.length->SR (AR F g s.ob) w g s.ob (J.getD j hY) (c.args.getD j .any)) (R:(Lo T s key D c).ok=bI)
  (hK:∀I w' g',I.size=tmps.size->FX F Iow w0 g0 o0 g' w' I vm ss' (Lo T s key D c)->K ⟨I,ds⟩ w'):o.upon P ⟨tmps,ds⟩ K Q ((lJ c.f J).run P w):=by
 unfold Lo at R hK;cases hC:T c.f with
 |none=>rw[hC]at R;simp[PT,fail]at R
 | some C=>
  rw[hC]at R hK;have:=(h.setOk (s.ok&&c.ok)).call (key:=key) ad hd U (hT _ _ hC) ab hv R;refine Kx this (fun v w' hR=>?_) (fun c w' hR=>?_) (fun w' hR=>?_)
  .obtain⟨v',g',e,ae⟩:=hR;cases e
   rw[Qi];exact hK _ _ _ (Lz _ _ _) ae
  .obtain⟨v',g',e,_⟩:=hR;cases e
  .obtain⟨v',g',e,_⟩:=hR;cases e
def ON(hT:Ls P T)(h:FX F Iow w0 g0 o0 g w tmps vm ss s){c:Cal}{ab:Array Value}
  (bh:ab.size=c.args.length) (hv:∀j,j<c.args.length->SR (AR F g s.ob) w g s.ob (ab.getD j hY) (c.args.getD j .any)) (ae:(DT T s.ob c).ok=bI) (hl:(DT T s.ob c).v.lone=bI) (hh:(DT T s.ob c).hs=[]) :
  DJ P c.f ab w fun e w'=>∃v,e = .returned v/\AD C' w w'/\SR (AR F g s.ob) w' g s.ob v (DT T s.ob c).v:=by
 simp only[DT,IJ,hL]at ae hl hh ⊢;cases hC:T c.f with
 |none=>rw[hC]at ae;simp[bn,bad]at ae
 | some C=>
  rw[hC]at ae hl hh;simp only[bn,IJ,hL,beq_iff_eq,d']at ae hl hh ⊢;obtain⟨_,⟨hlen,⟨a6,ad⟩,U,bo⟩,bb⟩:=ae;have hS:=hT _ _ hC
  have b1:∀j,C.modes.getD j .bor = .bor:=by
   intro j;simp only[bR,beq_iff_eq]at ad;rw[kf];cases hm:C.modes[j]? with
   |none=>rfl
   |some m=>exact ad m (j4 hm)
  have hio:∀k,k ∉ Bi C.modes c.args:=by
   have gen:∀(ms:List Md) (aa:List AV),(∀m,m∈ms->m = .bor)->Bi ms aa=[]:=by
    intro ms
    induction ms with
    |nil=>intro aa _;rfl
    | cons m ms ih=>
     intro aa R;have:=R m p';subst this;cases aa with
     |nil=>rfl
     |cons a aa=>exact ih aa fun m hm=>R m (by simp[hm])
   simp only[bR,beq_iff_eq]at ad;intro k hk;rw[gen _ _ ad]at hk;simp at hk
  have a1:Bi C.modes c.args=[]:=k5.2 hio
  let Fc:Nat->Prop:=fun b=>AR F g s.ob b/\∀k,(k∈Bi C.modes c.args\/k∈Fp C.modes c.args)->Mo g s.ob k->g.β k≠b
  have ba:=h.toFR.args (Fc:=Fc) (ms:=C.modes) bh hv (by rw[a1];rfl) (by rw[a1];rfl) hlen a6 (fun b hb=>hb);have bs:=MZ s.ob C.modes c.args hlen;obtain⟨au,hinv⟩:=hS.2 Fc (Mc g c.args) w (Bh s.ob C.modes c.args) ab a6 (by rw[bh,bs]) (by rw[bs];exact ba) bo;refine hinv.mono fun e w' he=>?_
  obtain⟨v,gb,ay,κ,rfl,B⟩:=he
  have aj:∀k,¬ Mo (Mc g c.args) (BN 0 (Bh s.ob C.modes c.args)) k:=by
   rintro k ⟨⟨hm,hg⟩,_⟩;obtain⟨j,k0,_,_,b0,_⟩:=ADY hlen a6 hg;exact b0 (b1 j)
  refine⟨v,rfl,B.same.mono fun b _ ⟨k,hk,_⟩=>(aj k hk).elim,?_⟩
  have I:∃S':Nat->Prop,RV S' w' gb ay κ v (C.F (Bh s.ob C.modes c.args)).r/\(∀b,AR F g s.ob b->S' b) /\
    ∀sz els,Kd (C.F (Bh s.ob C.modes c.args)).r 0->IC (KS (C.F (Bh s.ob C.modes c.args)).r 0)=cB ⟨sz,els⟩->AK (κ 0) ay=cB ⟨sz,els⟩->Hy (AR F g s.ob) w' (gb.β (κ 0)) (gb.cap (κ 0)) sz els:=by
   rcases U with U|U
   .exact⟨AR F g s.ob,uh (au U) B.val,fun _ c=>c,fun sz els h1 h2 h3=>QM (jO (au U) h1 h2) (B.home (κ 0) ⟨sz,els⟩ h3)⟩
   .have az:∀b,AR F g s.ob b->AR Fc gb ay b:=by
     refine fun b hb=>.inl ⟨hb,fun k hk _ _=>?_⟩
     have b3:∀(ms:List Md) (aa:List AV),(∀a,a∈aa->a.keys=[])->Fp ms aa=[]:=by
      intro ms
      induction ms with
      |nil=>intro aa _;cases aa<;>rfl
      | cons m ms ih=>
       intro aa R;cases aa with
       |nil=>cases m<;>rfl
       | cons a aa=>
        have i1:=ih aa fun a ha=>R a (by simp[ha])
        cases m<;>simp[Fp,i1,R a p']
     simp only[bR,fI]at U;rcases hk with hk|hk
     .exact hio k hk
     .rw[b3 _ _ U]at hk;simp at hk
    exact⟨_,B.val,az,fun sz els _ _ h3=>(B.home (κ 0) ⟨sz,els⟩ h3).mono (dU _ _) (fun _=>rfl) fun b _ hb=>az b hb⟩
  obtain⟨S',I,az,J⟩:=I;revert I bb hl hh J;generalize(C.F (Bh s.ob C.modes c.args)).r=r;intro bb hl hh I J
  have blk:∀{sz:Nat} {els:List AV},AK (κ 0) ay=cB ⟨sz,els⟩->Hy (AR F g s.ob) w' (gb.β (κ 0)) (gb.cap (κ 0)) sz els ->
    VR (AR F g s.ob) w' (.slice (cB ⟨gb.β (κ 0),0,fA⟩) els.length (gb.cap (κ 0))) (.sl sz els)/\(gb.cap (κ 0)=0->VR (AR F g s.ob) w' (.slice fA 0 0) (.sl sz els)) /\
    ∀i off,i<els.length->VR (AR F g s.ob) w' (.pointer (cB ⟨gb.β (κ 0),i*sz+off,fA⟩)) (.ptr sz els i off):=by
   intro sz els ho hH;obtain⟨rr,a8⟩:=hH.cell;refine hH.sl a8 (fun _ c=>c) fun hp c=>?_
   have cc:=h.toFR.setLt c;rcases B.hio (κ 0) ⟨⟨_,ho⟩,hp⟩with cf|⟨k',b2,_⟩
   .omega
   .exact aj k' b2
  cases r<;>simp[cN,adopt,EK,bad,GW]at bb hl hh
  case fresh sz els=>
   obtain⟨q1,q2,_⟩:=blk I.1 (J sz els ⟨rfl,rfl⟩ rfl I.1);rcases I.2 with e|⟨e0,e⟩
   .rw[e];exact q1.toSR
   .rw[e];exact(q2 e0).toSR
  case mem sz els ix=>
   obtain⟨_,_,q3⟩:=blk I.1 (J sz els ⟨rfl,rfl⟩ rfl I.1);obtain⟨_,cd,e⟩:=I;have:=q3 0 0 n';rw[kB,kI]at this;rw[e];exact this.toSR
  all_goals first
   |(simp[AV.lone]at hl;done)
   |exact(VR.mono (S':=AR F g s.ob) (dU S' w') (fun b _ c=>az b c) I).toSR
end
variable{s:St}
def rR{k:Nat}{h:Option Hm}:(k7 s k h).ok=s.ok:=by cases h<;>rfl
def Is:∀(ks:List Nat) (s:St),(et s ks).ok=s.ok
 |[],_=>rfl
 |k::r,s=>by simp only[et];rw[Is r,rR]
variable{sz:Nat}
def we{x p:AV}(h:(MN s sz x p).ok=bI):s.ok=bI:=by
 cases p<;>simp only[MN,fail]at h<;>try(cases h;done)
 rename_i k i off;cases j:AK k s.ob with
 |none=>rw[j]at h;simp[Tv,fail]at h
 | some hm=>
  rw[j]at h;simp only[Tv,VC,hL]at h;exact h.1
variable{key:Nat}{D:Kc}{a:AV}
def AGZ{bytes:Nat}{y:Ap}(h:(Uo s key D sz bytes y a).ok=bI):s.ok=bI:=by
 cases a<;>simp only[Uo,fail]at h<;>try(cases h;done)
 case nilsl=>exact(JJ h).1
 case own k=>
  cases j:AK k s.ob with
  |none=>rw[j]at h;simp[Xt,fail]at h
  |some hm=>rw[j]at h;exact(VX h).1
def wG{n:Int}(h:(ML s D sz n a).ok=bI):s.ok=bI:=by
 cases a<;>simp only[ML,fail]at h<;>try(cases h;done)
 rename_i k;cases j:AK k s.ob with
 |none=>rw[j]at h;simp[Wt,fail]at h
 |some hm=>rw[j]at h;exact(VX h).1
def Ky:∀(ms:List Md) (j os:List AV) (s:St),(Ak s ms j os).ok=bI->s.ok=bI
 |[],[],[],s,h=>h
 |[],[],q::os,s,h=>by simp[Ak,fail]at h
 |[],a::j,os,s,h=>by simp[Ak,fail]at h
 |m::ms,[],os,s,h=>by cases m<;>simp[Ak,fail]at h
 |m::ms,a::j,[],s,h=>by cases m<;>cases a<;>simp[Ak,fail]at h
 |.bor::ms,a::j,q::os,s,h=>Ky ms j os s h
 | .io::ms,a::j,q::os,s,h=>by
  unfold Ak at h;split at h
  .simp_all
  .rename_i J I C;simp only[List.cons.injEq]at J I C;obtain⟨_,rfl⟩:=J;obtain⟨_,rfl⟩:=I;obtain⟨_,rfl⟩:=C;have:=Ky _ _ _ _ h;exact this
  .rename_i J I C;simp only[List.cons.injEq]at J I C;obtain⟨_,rfl⟩:=J;obtain⟨_,rfl⟩:=I;obtain⟨_,rfl⟩:=C;have:=Ky _ _ _ _ h;exact this
  .simp_all
  .simp_all
  .simp_all
  .simp[fail]at h
 | .mov::ms,a::j,q::os,s,h=>by
  cases a<;>simp only[Ak,fail]at h<;>try(cases h;done)
  .have:=Ky _ _ _ _ h;exact this
  .have:=Ky _ _ _ _ h;exact this
def ABy{I:List AV}{C:Option Ao}(h:(PT s key D I C).ok=bI):s.ok=bI:=by
 cases C with
 |none=>simp[PT,fail]at h
 | some C=>
  simp only[PT,QQ]at h;have j:=Ky _ _ _ _ (JJ h).1;unfold Uv at j;rw[AM]at j;split at j
  .exact j
  .rwa [Is]at j
variable{T:Le}
def QO{c:Cal}(h:(Lo T s key D c).ok=bI):s.ok=bI/\c.ok=bI:=by
 have:=ABy h;simpa using this
variable{a:KW}
def AFt(h:(DF T s key D a).ok=bI):s.ok=bI:=by
 cases a<;>simp only[DF]at h
 case callw=>cases h
 case store=>have:=we h;rwa [Is]at this
 case app=>exact AGZ h
 case call=>exact(QO h).1
 case callv=>exact(QO h).1
 case box=>have:=(JJ h).1;rwa [Is]at this
 case build=>have:=(JJ h).1;rwa [Is]at this
 case mkSl=>have:=(JJ h).1;rwa [Is]at this
 case slice=>have:=(JJ h).1;rwa [Is]at this
 case movz=>have:=(JJ h).1;rwa [Is]at this
 case trunc=>exact wG h
 all_goals exact(JJ h).1
variable{w:Bool}
def jz{m:Mk}(h:(Pa s w D m).ok=bI):s.ok=bI/\(w=bI->m.ok=bI/\m.hs=[]/\m.v.lone=bI):=by
 obtain⟨j,h2⟩:=VX h;refine⟨j,fun e=>?_⟩;subst e;simpa using h2
def oT(h:(Nr T s key D w a).ok=bI):s.ok=bI:=by
 unfold Nr at h;split at h
 .unfold rM at h;split at h
  .exact(QO h).1
  .exact(jz h).1
 .exact(jz h).1
def pN{i:Ng}(h:(Dp T s i).ok=bI):s.ok=bI:=by
 unfold Dp Xa at h;split at h
 .exact AFt h
 .have:=oT h;simp at this;exact this.1
def OL{T:Le}:∀(is:List Ng) {s:St},(Gj T is s).ok=bI->s.ok=bI
 |[],_,h=>h
 |i::r,s,h=>pN (OL r h)
def mh(P:eo)(vm ss:List Nat)(D:Kc)(op:Op)(a:KW):Bool :=
 match a with
 |.store sz p x=>D == .no&&sE P vm ss sz p x op
 |.app sz bytes z a x=>AGS P vm ss sz bytes z a x op
 |.call f args=>Sm vm ss f args op
 |.callv f args=>Xr vm ss f args op
 |.callp f args=>Sm vm ss f args op
 |.pur (.call f args)=>Sm vm ss f args op
 |.pur (.callv f args)=>Xr vm ss f args op
 |.pur a=>Az a&&Pj P vm ss op a
 |.pick c a b=>jk vm ss c a b op
 |.flat a=>mh P vm ss D op a
 |.trunc sz x hi=>sD P vm ss sz x hi op
 |.movz x=>Pj P vm ss op (.mov x)
 |.safe _ a=>mh P vm ss D op a
 |a=>Pj P vm ss op a
section
variable {F Iow:Nat->Prop}{w0:cS}{g0:Gh}{o0:Cx}{g:Gh}{w w':cS}{tmps:Array Value}{ds:List hV}{vm ss ss':List Nat}{s:St}{P:eo}{o:j6}{key:Nat}{T:Le}{D:Kc}
 {K:Act->cS->Prop} {Q:m'->Act->cS->Prop}
def MH(h:FR F g w tmps vm ss s){xs:Array ln}{C:List Src}(I:Rk vm ss xs.toList C=bI):(xs.map ({ tmps:=tmps,defers:=ds }:Act).eval).size=(C.map (rd s)).length /\
  ∀j,j<(C.map (rd s)).length->SR (AR F g s.ob) w g s.ob ((xs.map ({ tmps:=tmps,defers:=ds }:Act).eval).getD j hY) ((C.map (rd s)).getD j .any):=by
 refine⟨by simpa using Sg I,fun j J=>?_⟩;have:=Si (ds:=ds) h j I (by simpa using J);rw[←FK,Array.toList_map];exact this
def Um{S:Nat->Prop}{ob:Cx}{v1 C v2:Array Value}{a1 I a2:List AV}(n1:v1.size=a1.length)(n:C.size=I.length)(n2:v2.size=a2.length)
  (R:∀j,j<a1.length->SR S w g ob (v1.getD j hY) (a1.getD j .any)) (h:∀j,j<I.length->SR S w g ob (C.getD j hY) (I.getD j .any)) (h2:∀j,j<a2.length->SR S w g ob (v2.getD j hY) (a2.getD j .any)) :
  (v1++C++v2).size=(a1++I++a2).length/\∀j,j<(a1++I++a2).length->SR S w g ob ((v1++C++v2).getD j hY) ((a1++I++a2).getD j .any):=by
 refine⟨by simp[n1,n,n2],fun j J=>?_⟩;simp only[l5]at J;rw[QS,QS,Jq,Jq];simp only[Array.size_append,l5,n1,n]
 by_cases c1:j<a1.length+I.length
 .rw[if_pos c1,if_pos c1]
  by_cases c2:j<a1.length
  .rw[if_pos c2,if_pos c2];exact R j c2
  .rw[if_neg c2,if_neg c2];exact h _ n'
 .rw[if_neg c1,if_neg c1];exact h2 _ n'
variable{a:AV}
def Sj{args:List AV}(h:(Li args a).ok=bI):∃f a1 a2,a = .fn (.func f) a1 a2/\Li args a=⟨bI,f,a1++args++a2⟩:=by
 unfold Li at h ⊢;split
 .exact⟨_,_,_,rfl,rfl⟩
 .rename_i j;split at h
  .exact absurd rfl (j _ _ _)
  .cases h
variable{m:Mk}
def Tw(h:FX F Iow w0 g0 o0 g w tmps vm ss s)(I:RR vm)(hd:Fb vm ss o.dst D=cB ss')(C:∀d,o.dst=cB d->d<tmps.size)(U:BM (AR F g s.ob) w g s.ob key m ((fm ({ tmps:=tmps,defers:=ds }:Act).eval o).run P w))
  (hK:∀j w' g',j.size=tmps.size->FX F Iow w0 g0 o0 g' w' j vm ss' (EH s key D m)->K ⟨j,ds⟩ w'):o.upon P ⟨tmps,ds⟩ K Q ((fm ({ tmps:=tmps,defers:=ds }:Act).eval o).run P w):=by
 obtain⟨v,w',g',R,J⟩:=h.still I hd C U;rw[R,hD,Qi];exact hK _ _ _ (Lz _ _ _) J
def uj(h:EM a=bI)(ob:Cx):a.dv ob=a:=by cases a<;>first|rfl|(cases h)
def Te:∀(ms:List Md) (j:List AV) (ob ob':Cx),(∀a,a∈j->EM a=bI)->Bh ob ms j=Bh ob' ms j
 |[],_,_,_,_=>rfl
 |_::_,[],_,_,_=>rfl
 | m::ms,a::j,ob,ob',h=>by
  have C:=h a p';simp only[Bh];rw[Te ms j ob ob' fun x I=>h x (by simp[I])]
  congr 1
  cases m
  .simp only[Ey];rw[uj C,uj C]
  .cases a<;>first|rfl|(cases C)
  .cases a<;>first|rfl|(cases C)
def rz{T:Le}{f:Nat}{j:List AV}{ob ob':Cx}(h:∀a,a∈j->EM a=bI):DT T ob ⟨bI,f,j⟩=DT T ob' ⟨bI,f,j⟩:=by
 simp only[DT];cases T f with
 |none=>rfl
 |some C=>simp only[bn];rw[Te C.modes j ob ob' h]
variable{b:Bool}
def ABT(h:(PN b m).ok=bI):b=bI/\PN b m=m:=by
 unfold PN at h ⊢;rw[AM]at h ⊢;split at h
 .rename_i hb;simp only[hL,fI]at hb;rw[if_pos (by simp[hb.1,hb.2.1,hb.2.2])];refine⟨hb.1,?_⟩;cases m
  simp only at hb ⊢;rw[hb.2.1]
 .cases h
def xx{T:Le}{s:St}{key:Nat}{D:Kc}{a:KW}(j:(DF T s key D (.flat a)).ok=bI):DF T s key D (.flat a)=DF T s key D a:=by
 simp only[DF]at j ⊢;obtain⟨_,hm⟩:=JJ j;obtain⟨hb,he⟩:=ABT hm;rw[he]at hm ⊢;have hs:∀x,x∈GD a->EM (rd s x)=true:=fun x C=>bR.1 hb x C
 cases a<;>simp only[Ks]at hm ⊢<;>(try(cases hm;done))
 case callp f args=>
  rw[rz (ob':=s.ob) fun y J=>by
   obtain⟨x,C,rfl⟩:=fB.1 J;exact hs x C]
 case pur b=>
  cases b<;>simp only[Ks]at hm ⊢<;>(try(cases hm;done))
  rfl
 case len st x=>
  have I:=hs x (by simp[GD,BQ])
  have e:AP (rd s) [] key (.len st x)=AP (rd s) s.ob key (.len st x):=by
   simp only[AP];revert I;generalize rd s x=y;intro I;cases y<;>first|rfl|(cases I)
  show EH s key D (AP (rd s) [] key (.len st x))=EH s key D (AP (rd s) s.ob key (.len st x));rw[e]
 all_goals rfl
def tP{T:Le}{s:St}{key:Nat}{a:KW}:LQ T s key a=SB T (rd s) s.ob key a:=by cases a<;>rfl
variable{ob ob':Cx}
def ABe(h:∀k,k∈a.key1->AK k ob=AK k ob'):a.dv1 ob=a.dv1 ob':=by
 cases a<;>(try rfl)
 .rename_i k;simp only[AV.dv1];rw[h k (by simp[AV.key1])]
 .rename_i k i off;simp only[AV.dv1];rw[h k (by simp[AV.key1])]
def APV(h:∀k,k∈a.keys->AK k ob=AK k ob'):a.dv ob=a.dv ob':=by
 cases a<;>(try rfl)
 .rename_i f fi ca;simp only[AV.keys,k4,bS]at h;simp only[AV.dv];rw[bN (l:=fi) (g:=AV.dv1 ob') fun x j=>ABe fun k C=>h k ⟨x,.inl j,C⟩,bN (l:=ca) (g:=AV.dv1 ob') fun x j=>ABe fun k C=>h k ⟨x,.inr j,C⟩]
 .rename_i k;simp only[AV.dv];rw[h k (by simp[AV.keys])]
 .rename_i k i off;simp only[AV.dv];rw[h k (by simp[AV.keys])]
def oQ(h:∀k,k∈a.keys->AK k ob=AK k ob'):MD ob a=MD ob' a:=by
 cases a<;>(try rfl)
 .rename_i k;simp only[MD];rw[h k (by simp[AV.keys])]
 .rename_i k i off;cases off<;>(try rfl)
  simp only[MD];rw[h k (by simp[AV.keys])]
def YQ:∀(ms:List Md) (j:List AV) {ob ob':Cx},(∀a,a∈j->∀k,k∈a.keys->AK k ob=AK k ob')->Bh ob ms j=Bh ob' ms j
 |[],_,_,_,_=>rfl
 |_::_,[],_,_,_=>rfl
 | m::ms,a::j,ob,ob',h=>by
  simp only[Bh];rw[YQ ms j fun x C=>h x (by simp[C])]
  congr 1
  cases m
  .exact APV (h a p')
  .exact oQ (h a p')
  .exact oQ (h a p')
def pT{T:Le}{f:Nat}{j:List AV}(h:∀a,a∈j->∀k,k∈a.keys->AK k ob=AK k ob'):DT T ob ⟨bI,f,j⟩=DT T ob' ⟨bI,f,j⟩:=by
 simp only[DT];cases T f with
 |none=>rfl
 |some C=>simp only[bn];rw[YQ C.modes j h]
variable{a:KW}{r:Src->AV}
def mz{key:Nat}(h:∀x,x∈BQ a->∀k,k∈(r x).keys->AK k ob=AK k ob'):AP r ob key a=AP r ob' key a:=by
 cases a<;>(try rfl)
 case load agg sz p=>
  have j:=h p (by simp[BQ]);simp only[AP];revert j;generalize r p=y;intro j;cases y<;>(try rfl)
  rename_i k i off;simp only[PI];rw[j k (by simp[AV.keys])]
 case b2s x=>
  have j:=h x (by simp[BQ]);simp only[AP];revert j;generalize r x=y;intro j;cases y<;>(try rfl)
  rename_i k;simp only[Yp];rw[j k (by simp[AV.keys])]
 case ixAddr sz x i=>
  have j:=h x (by simp[BQ]);simp only[AP];revert j;generalize r x=y;intro j;cases y<;>(try rfl)
  rename_i k;simp only[MW];rw[j k (by simp[AV.keys])]
 case len st x=>
  have j:=h x (by simp[BQ]);simp only[AP];revert j;generalize r x=y;intro j;cases y<;>(try rfl)
  rename_i k;simp only[Yk];rw[j k (by simp[AV.keys])]
def zW{T:Le}{key:Nat}(h:∀x,x∈Eu a->∀k,k∈(r x).keys->AK k ob=AK k ob'):LP T r ob key a=LP T r ob' key a:=by
 have hm:∀l:List Src,(∀x,x∈l->x∈Eu a)->∀y,y∈l.map r->∀k,k∈y.keys->AK k ob=AK k ob':=fun l I y C=>by
  obtain⟨x,j,rfl⟩:=fB.1 C;exact h x (I x j)
 cases a<;>(try rfl)
 case callp f args=>simp only[LP];rw[pT (hm args fun x j=>j)]
 case pur b=>
  have J:∀x,x∈BQ b->∀k,k∈(r x).keys->AK k ob=AK k ob':=h;clear h;cases b
  case callv=>rfl
  case call f args=>simp only[LP,SB];rw[pT (hm args fun x j=>j)]
  all_goals
   simp only[LP,SB];rw[mz J]
 all_goals
  simp only[LP];rw[mz (by simpa only[Eu]using h)]
def Vh{d k:Nat}(I:k/32≠d):∀ob:Cx,AK k (FL d ob)=AK k ob
 |[]=>rfl
 | p::r=>by
  have C:=Vh I r
  by_cases c:p.1/32=d
  .have j:(p.1==k)=bX:=by rw[beq_eq_false_iff_ne];intro e;exact I (by rw[←e];exact c)
   simp only[FL,AK,c,beq_self_eq_true,cond_true,j,cond_false,C]
  .have:(p.1/32==d)=bX:=by simpa using c
   simp only[FL,AK,this,cond_false,C]
def Vg{k:Nat}:∀(ds:List Nat) (ob:Cx),(∀d,d∈ds->k/32≠d)->AK k (NB ds ob)=AK k ob
 |[],_,_=>rfl
 | d::ds,ob,h=>by
  simp only[NB];rw[Vg ds _ fun e he=>h e (by simp[he]),Vh (h d p')]
def ng{ds:List Nat}{a:AV}(h:Qk ds a=bI){k:Nat}(j:k∈a.keys):∀d,d∈ds->k/32≠d:=by
 intro d hd e;simp only[Qk,hL,cA,k1]at h;have:=h.2 k j;apply this;rw[h8];exact⟨d,hd,by simpa using e.symm⟩
def zV{ds:List Nat}(h:(Zs b ds m).ok=bI):b=bI/\m.hs=[]/\Zs b ds m=m:=by
 unfold Zs at h ⊢;rw[AM]at h ⊢;split at h
 .rename_i j;simp only[hL,fI]at j;refine⟨j.1,j.2.1,?_⟩;rw[if_pos (by simp[j.1,j.2.1,j.2.2])];obtain⟨a,b,c⟩:=m;obtain⟨_,rfl,_⟩:=j;rfl
 .cases h
def wk{T:Le}{s:St}{key:Nat}{D:Kc}{ks:List Nat}(j:(DF T s key D (.safe ks a)).ok=bI):DF T s key D (.safe ks a)=DF T s key D a:=by
 simp only[DF]at j ⊢;obtain⟨_,hm⟩:=JJ j;unfold Mn at hm ⊢;obtain⟨hb,-,he⟩:=zV hm;rw[he]at hm ⊢
 have hs:∀x,x∈Eu a->∀k,k∈(rd s x).keys->AK k (NB ks s.ob)=AK k s.ob:=fun x C k I=>
  Vg ks _ (ng (bR.1 hb x C) I)
 rw[zW hs]at hm ⊢;cases a
 case pur b=>
  cases b
  case callv=>simp[LP,bad]at hm
  all_goals
   simp only[LP,DF,tP]
 case pick=>rfl
 case callp=>rfl
 all_goals first
  |rfl
  |(simp[LP,Gi,bad]at hm;done)
def kE(hT:Ls P T)(h:FX F Iow w0 g0 o0 g w tmps vm ss s)(aa:RR vm)(hd:Fb vm ss o.dst D=cB ss')(R:∀d,o.dst=cB d->d<tmps.size){a:KW}(C:mh P vm ss D o.op a=bI)(I:(DF T s key D a).ok=bI)
  (U:∀J w' g',J.size=tmps.size->FX F Iow w0 g0 o0 g' w' J vm ss' (DF T s key D a)->K ⟨J,ds⟩ w'):o.upon P ⟨tmps,ds⟩ K Q ((fm ({ tmps:=tmps,defers:=ds }:Act).eval o).run P w):=by
 have still:∀{a:KW},Pj P vm ss o.op a=bI->(EH s key D (AP (rd s) s.ob key a)).ok=bI->(∀J w' g',J.size=tmps.size->FX F Iow w0 g0 o0 g' w' J vm ss' (EH s key D (AP (rd s) s.ob key a))->K ⟨J,ds⟩ w') ->
   o.upon P ⟨tmps,ds⟩ K Q ((fm ({ tmps:=tmps,defers:=ds }:Act).eval o).run P w):=fun C I U=>
  Tw h aa hd R (VD (ds:=ds) (key:=key) h.toFR C (JJ I).2) U
 have frozen:∀{a:KW} (ks:List Nat),Pj P vm ss o.op a=bI->(EH (et s ks) key D (AP (rd (et s ks)) (et s ks).ob key a)).ok=bI ->
   (∀J w' g',J.size=tmps.size->FX F Iow w0 g0 o0 g' w' J vm ss' (EH (et s ks) key D (AP (rd (et s ks)) (et s ks).ob key a))->K ⟨J,ds⟩ w') ->
   o.upon P ⟨tmps,ds⟩ K Q ((fm ({ tmps:=tmps,defers:=ds }:Act).eval o).run P w):=fun ks C I U=>
  Tw (h.freezeAll ks) aa hd R (VD (ds:=ds) (key:=key) (h.freezeAll ks).toFR C (JJ I).2) U
 cases a
 case store sz p x=>
  simp only[mh,hL,beq_iff_eq]at C;obtain⟨rfl,C⟩:=C;simp only[DF]at I U;obtain⟨w',hr,ao⟩:=(h.freezeAll (rd s x).keys).store (ds:=ds) C I;rw[hr,Oper.upon_skip,Qi]
  have b1:o.dst=fA/\ss'=ss:=by
   revert hd;cases o.dst with
   |none=>intro hd;exact⟨rfl,by simpa[Fb]using hd.symm⟩
   |some d=>intro hd;simp[Fb]at hd
  rw[b1.1];rw[b1.2]at U;exact U _ _ _ rfl ao
 case app sz bytes z a x=>
  simp only[mh]at C;simp only[DF]at I U;obtain⟨v,w',g',hr,ao⟩:=h.app (ds:=ds) aa hd R C I;rw[hr,hD,Qi];exact U _ _ _ (Lz _ _ _) ao
 case call f args=>
  simp only[mh]at C;simp only[DF]at I U;unfold Sm at C;split at C
  .rename_i f' xs ax he;simp only[hL,beq_iff_eq]at C;obtain⟨rfl,C⟩:=C;obtain⟨e1,e2⟩:=MH (ds:=ds) h.toFR C;have ab:=Kt (P:=P) (w:=w) (o:=o) (ρ:=({ tmps:=tmps,defers:=ds }:Act).eval) (f:=f') (v1:=#[]) (v2:=#[]) rfl he;rw[hE,hG]at ab;rw[ab];exact Wz hT h aa hd R e1 e2 I U
  .cases C
 case callp f args=>
  simp only[mh]at C;simp only[DF]at I U;obtain⟨bz,hm⟩:=JJ I;simp only[MA,hL,fI]at hm;unfold Sm at C;split at C
  .rename_i f' xs ax he;simp only[hL,beq_iff_eq]at C;obtain⟨rfl,C⟩:=C;obtain⟨e1,e2⟩:=MH (ds:=ds) h.toFR C;have ab:=Kt (P:=P) (w:=w) (o:=o) (ρ:=({ tmps:=tmps,defers:=ds }:Act).eval) (f:=f') (v1:=#[]) (v2:=#[]) rfl he;rw[hE,hG]at ab;rw[ab];have:=ON (s:=s) (c:=⟨bI,f',args.map (rd s)⟩) hT h e1 e2 hm.1 hm.2.2 hm.2.1;refine Kx this (fun v w' hR=>?_) (fun c w' hR=>?_) (fun w' hR=>?_)
   .obtain⟨v',e,hw,hv⟩:=hR;cases e
    rw[Qi];refine U _ _ g (Lz _ _ _) ?_;have h1:=(h.toFR.grow hw).put aa hd R (MA (DT T s.ob ⟨bI,f',args.map (rd s)⟩)).ok (v:=v) (a:=(DT T s.ob ⟨bI,f',args.map (rd s)⟩).v) (fun _=>hv);have aj:(EH s key D (MA (DT T s.ob ⟨bI,f',args.map (rd s)⟩))).ob=s.ob:=by cases D<;>rfl
    exact FX.mk' (w:=w) h1 h.same (hw.mono fun _ _ c=>c.elim) (fun k hk=>h.hio k (by rw[aj]at hk;exact hk)) h.fio (by rw[aj];exact h.par)
   .obtain⟨v',e,_⟩:=hR;cases e
   .obtain⟨v',e,_⟩:=hR;cases e
  .cases C
 case callv f args=>
  simp only[mh]at C;simp only[DF]at I U;unfold Xr at C;split at C
  .rename_i y xs ax he;simp only[hL]at C;obtain⟨be,C⟩:=C;obtain⟨e1,e2⟩:=MH (ds:=ds) h.toFR C;have ae:=h.toFR.src (ds:=ds) be;obtain⟨bs,a1,a2,ea,au⟩:=Sj (QO I).2;rw[ea]at ae;obtain⟨v1,v2,ev,n1,n2,h1,h2⟩:=ae;rw[Kt (P:=P) (w:=w) (ρ:=({ tmps:=tmps,defers:=ds }:Act).eval) ev he];rw[au]at I U;obtain⟨q1,q2⟩:=Um (w:=w) (g:=g) n1 e1 n2 (fun j hj=>(h1 j hj).toSR) e2 (fun j hj=>(h2 j hj).toSR);exact Wz hT h aa hd R (c:=⟨bI,bs,a1++args.map (rd s)++a2⟩) q1 q2 I U
  .cases C
 case pick c a b=>
  simp only[mh]at C;simp only[DF]at I U
  have b4:SR (AR F g s.ob) w g s.ob (({ tmps:=tmps,defers:=ds }:Act).eval (match o.op with |.pick x _ _=>x|_=>.const hY)) (rd s c):=by
   unfold jk at C;split at C
   .rename_i x y z he;simp only[hL]at C;try rw[he]
    exact h.toFR.src C.1
   .cases C
  exact Tw h aa hd R (zY (ds:=ds) (key:=key) h.toFR C b4 (JJ I).2) U
 case pur a=>
  simp only[DF]at I U;obtain⟨bz,hm⟩:=JJ I
  have fin:∀(v:Value) (w':cS),(LQ T s key a).hs=[]->AD C' w w'->SR (AR F g s.ob) w' g s.ob v (LQ T s key a).v->K (({ tmps:=tmps,defers:=ds }:Act).put o.dst v) w':=by
   intro v w' hh hw hv;rw[Qi];refine U _ _ g (Lz _ _ _) ?_;have h1:=(h.toFR.grow hw).put aa hd R (LQ T s key a).ok (v:=v) (a:=(LQ T s key a).v) (fun _=>hv);have e:EH s key D (LQ T s key a)=BH s (LQ T s key a).ok (LQ T s key a).v D:=by unfold EH;rw[hh];rfl
   have aj:(BH s (LQ T s key a).ok (LQ T s key a).v D).ob=s.ob:=by cases D<;>rfl
   rw[e];exact FX.mk' (w:=w) h1 h.same (hw.mono fun _ _ c=>c.elim) (fun k hk=>h.hio k (by rw[aj]at hk;exact hk)) h.fio (by rw[aj];exact h.par)
  have ay:Az a=bI->Pj P vm ss o.op a=bI->LQ T s key a=MA (TW (AP (rd s) s.ob key a))->o.upon P ⟨tmps,ds⟩ K Q ((fm ({ tmps:=tmps,defers:=ds }:Act).eval o).run P w):=by
   intro hg C he;rw[he]at hm fin;simp only[MA,hL]at hm fin;obtain⟨v,w',hr,hw,hv⟩:=BM.frz h.toFR (VD (ds:=ds) (key:=key) h.toFR C hm.1);rw[hr,hD];exact fin v w' trivial hw hv
  cases a
  case call f args=>
   simp only[mh]at C;simp only[LQ,MA,hL,fI]at hm fin;unfold Sm at C;split at C
   .rename_i f' xs ax he;simp only[hL,beq_iff_eq]at C;obtain⟨rfl,C⟩:=C;obtain⟨e1,e2⟩:=MH (ds:=ds) h.toFR C;have ab:=Kt (P:=P) (w:=w) (o:=o) (ρ:=({ tmps:=tmps,defers:=ds }:Act).eval) (f:=f') (v1:=#[]) (v2:=#[]) rfl he;rw[hE,hG]at ab;rw[ab];have:=ON (s:=s) (c:=⟨bI,f',args.map (rd s)⟩) hT h e1 e2 hm.1 hm.2.2 hm.2.1;refine Kx this (fun v w' hR=>?_) (fun c w' hR=>?_) (fun w' hR=>?_)
    .obtain⟨v',e,hw,hv⟩:=hR;cases e;exact fin _ _ trivial hw hv
    .obtain⟨v',e,_⟩:=hR;cases e
    .obtain⟨v',e,_⟩:=hR;cases e
   .cases C
  case callv f args=>
   simp only[mh]at C;simp only[LQ,MA,hL,fI]at hm fin;unfold Xr at C;split at C
   .rename_i y xs ax he;simp only[hL]at C;obtain⟨be,C⟩:=C;obtain⟨e1,e2⟩:=MH (ds:=ds) h.toFR C;have ae:=h.toFR.src (ds:=ds) be
    have b2:(Li (args.map (rd s)) (rd s f)).ok=bI:=by
     have:=hm.1;simp only[DT,IJ,hL]at this;exact this.1
    obtain⟨bs,a1,a2,ea,au⟩:=Sj b2;rw[ea]at ae;obtain⟨v1,v2,ev,n1,n2,h1,h2⟩:=ae;rw[Kt (P:=P) (w:=w) (ρ:=({ tmps:=tmps,defers:=ds }:Act).eval) ev he];rw[au]at hm fin;obtain⟨q1,q2⟩:=Um (w:=w) (g:=g) n1 e1 n2 (fun j hj=>(h1 j hj).toSR) e2 (fun j hj=>(h2 j hj).toSR);have:=ON (s:=s) (c:=⟨bI,bs,a1++args.map (rd s)++a2⟩) hT h q1 q2 hm.1 hm.2.2 hm.2.1;refine Kx this (fun v w' hR=>?_) (fun c w' hR=>?_) (fun w' hR=>?_)
    .obtain⟨v',e,hw,hv⟩:=hR;cases e;exact fin _ _ trivial hw hv
    .obtain⟨v',e,_⟩:=hR;cases e
    .obtain⟨v',e,_⟩:=hR;cases e
   .cases C
  all_goals
   simp only[mh,hL]at C;first
   |exact ay C.1 C.2 rfl
   |exact absurd C.1 j9
 case callw f args=>simp[DF,fail]at I
 case flat b=>
  have e:=xx I;rw[e]at I U;exact kE hT h aa hd R (by simpa only[mh]using C) I U
 case trunc sz x hi=>
  simp only[mh]at C;simp only[DF]at I U;obtain⟨v,w',g',hr,ao⟩:=h.trunc (ds:=ds) aa hd R C I;rw[hr,hD,Qi];exact U _ _ _ (Lz _ _ _) ao
 case movz x=>exact frozen (rd s x).keys (a:=.mov x) (by simpa only[mh]using C) I U
 case safe ks b=>
  have e:=wk I;rw[e]at I U;exact kE hT h aa hd R (by simpa only[mh]using C) I U
 case box x=>exact frozen (rd s x).keys (a:=.box x) C I U
 case build z ps=>exact frozen _ (a:=.build z ps) C I U
 case mkSl sz z n ps=>exact frozen _ (a:=.mkSl sz z n ps) C I U
 case slice sz x lo hi=>exact frozen _ (a:=.slice sz x lo hi) C I U
 all_goals
  simp only[mh]at C;simp only[DF]at I U;exact still C I U
end
def cG(P:eo)(vm ss:List Nat)(op:Op)(a:KW):Bool:=Az a&&Pj P vm ss op a
def ADH(P:eo)(vm ss:List Nat)(op:Op)(a:KW):Bool :=
 match a with
 |.call f args=>Sm vm ss f args op
 |.callv f args=>Xr vm ss f args op
 |.callw f args=>Sm vm ss f args op
 |.pick c a b=>jk vm ss c a b op
 |a=>cG P vm ss op a
def lI(ops:Array j6)(vm ss:List Nat):Option (Nat×Bool)->Option (Src×Bool)->Bool
 |none,fA=>bI
 | some (j,w),cB (x,w')=>w==w'&&(match(ops[j]?).bind (·.dst)with
  |some t=>Bb vm ss (.tmp t) x
  |none=>bX)
 |_,_=>bX
def uk(n:Nat):Option Nat->Bool
 |some d=>decide (d<n)
 |none=>bI
def lC(P:eo)(n:Nat)(ops:Array j6)(vm ss:List Nat)(o:j6)(i:Ng):Option (List Nat) :=
 bif uk n o.dst&&(lI ops vm ss o.guard i.guard&&(match i.guard with
  |none=>mh P vm ss i.dst o.op i.op
  |some _=>ADH P vm ss o.op i.op))then Fb vm ss o.dst i.dst else fA
def PR(P:eo)(n:Nat)(ops:Array j6)(vm:List Nat):List Nat->List j6->List Ng->Option (List Nat)
 |ss,[],[]=>cB ss
 | ss,o::os,i::is=>match lC P n ops vm ss o i with
  |some ss'=>PR P n ops vm ss' os is
  |none=>fA
 |_,_,_=>fA
section
variable {F Iow:Nat->Prop}{w0:cS}{g0:Gh}{o0:Cx}{g:Gh}{w w':cS}{tmps:Array Value}{ds:List hV}{vm ss ss':List Nat}{s:St}{P:eo}{o:j6}{key:Nat}{T:Le}{D:Kc}
 {K:Act->cS->Prop} {Q:m'->Act->cS->Prop} {ops:Array j6} {n:Nat} {i:Ng}
def xo(h:FR F g w tmps vm ss s){j t:Nat}{x:Src}(hd:(ops[j]?).bind (·.dst)=cB t)(R:Bb vm ss (.tmp t) x=bI)(I:SS (rd s x)=bI)(C:Bool):
  (kA ops tmps j==cB C)=od C (rd s x):=by
 have J:=h.src (ds:=[]) R
 have U:t<tmps.size:=by
  have hm:∀{l:List Nat} {m:Nat},l[m]? = cB t->t∈l:=fun h=>j4 h
  cases x with
  |v m=>simp only[Bb,beq_iff_eq]at R;exact h.fit t (.inl (hm R))
  |s m=>simp only[Bb,beq_iff_eq]at R;exact h.fit t (.inr (hm R))
  |c a=>simp[Bb]at R
 have he:tmps[t]? = cB (({ tmps:=tmps,defers:=[] }:Act).eval (.tmp t)):=by
  simp[Act.eval,agD,cI U]
 have hy:kA ops tmps j=match({ tmps:=tmps,defers:=[] }:Act).eval (.tmp t)with |.bool b=>cB b|_=>fA:=by
  unfold kA;rw[hd];simp only[obS,he];cases(({ tmps:=tmps,defers:=[] }:Act).eval (.tmp t))<;>rfl
 rw[hy];revert I;generalize rd s x=a at J;intro I;cases a<;>simp only[SS]at I<;>try(cases I;done)
 case bool b=>rw[PC J];cases b<;>cases C<;>rfl
 case opt c a=>
  cases c
  .simp only[SR,bfT,if_false]at J;rw[J];cases C<;>rfl
  .simp only[k9,kb]at I;cases a<;>simp only[ZJ]at I<;>try(cases I;done)
   rename_i b;simp only[SR,if_true]at J;have:=PC (ob:=s.ob) (g:=g) (J.toSR);rw[this];cases C<;>cases b<;>rfl
def AAL(hT:Ls P T)(h:FX F Iow w0 g0 o0 g w tmps vm ss s)(b1:RR vm)(hd:Fb vm ss o.dst D=cB ss')(a7:∀d,o.dst=cB d->d<tmps.size){a:KW}(J:ADH P vm ss o.op a=bI)(b0:∀f l,a ≠ .callw f l)(a6:(Pa s bI D (EE T s bI key a)).ok=bI)
  (hK:∀U w' g',U.size=tmps.size->FX F Iow w0 g0 o0 g' w' U vm ss' (Pa s bI D (EE T s bI key a))->K ⟨U,ds⟩ w'):o.upon P ⟨tmps,ds⟩ K Q ((fm ({ tmps:=tmps,defers:=ds }:Act).eval o).run P w):=by
 obtain⟨_,hm⟩:=jz a6;obtain⟨C,I,aa⟩:=hm rfl
 have fin:∀(v:Value) (w':cS),AD C' w w'->SR (AR F g s.ob) w' g s.ob v (EE T s bI key a).v->K (({ tmps:=tmps,defers:=ds }:Act).put o.dst v) w':=by
  intro v w' hw hv;rw[Qi];exact hK _ _ _ (Lz _ _ _) (h.guardPut b1 hd a7 hw (fun _ _=>hv) a6)
 have hu:=h.toFR.unS
 have ret:∀{m:Mk},m.hs=[]->BM (AR F g s.ob) w g s.ob key m ((fm ({ tmps:=tmps,defers:=ds }:Act).eval o).run P w)->m.v=(EE T s bI key a).v->o.upon P ⟨tmps,ds⟩ K Q ((fm ({ tmps:=tmps,defers:=ds }:Act).eval o).run P w):=by
  intro m hh hp hv;obtain⟨v,w',hr,hw,au⟩:=hp;rw[hr,hD];rcases au with⟨_,hs⟩|⟨k,h',b,cap,e,_⟩
  .exact fin v w' hw (hv▸hs)
  .rw[hh]at e;cases e
 have ay:∀{m:Mk},BM (AR F g s.ob) w g s.ob key m ((fm ({ tmps:=tmps,defers:=ds }:Act).eval o).run P w)->(TW m).v=(EE T s bI key a).v->o.upon P ⟨tmps,ds⟩ K Q ((fm ({ tmps:=tmps,defers:=ds }:Act).eval o).run P w):=by
  intro m hp hv;obtain⟨v,w',hr,hw,hs⟩:=BM.frz h.toFR hp;rw[hr,hD];exact fin v w' hw (hv▸hs)
 have still:Az a=bI->Pj P vm ss o.op a=bI->EE T s bI key a=IJ (Az a&&(BQ a).all fun x=>Dc bI (rd s x)) (TW (AP (Wr s) s.ob key a))->o.upon P ⟨tmps,ds⟩ K Q ((fm ({ tmps:=tmps,defers:=ds }:Act).eval o).run P w):=by
  intro hg J he;rw[he]at C I;simp only[IJ,hL,bR]at C I;obtain⟨⟨_,R⟩,ao⟩:=C;have bb:AP (Wr s) s.ob key a=AP (rd (unS s)) s.ob key a:=Iw hg fun x hx=>(aB (R x hx)).symm
  rw[bb]at ao;exact ay (m:=AP (rd (unS s)) s.ob key a) (VD (ds:=ds) (key:=key) hu J ao) (by rw[he,bb];rfl)
 have ab:∀{b8:List Src},(b8.all fun x=>Dc bI (rd s x))=bI->b8.map (Wr s)=b8.map (rd (unS s)):=fun R=>by
  simp only[bR]at R;exact bN fun x hx=>(aB (R x hx)).symm
 cases a
 case pick c x y=>
  simp only[ADH]at J;simp only[EE,IJ,hL]at C I
  have b3:SR (AR F g s.ob) w g s.ob (({ tmps:=tmps,defers:=ds }:Act).eval (match o.op with |.pick x _ _=>x|_=>.const hY)) (Wr s c):=by
   rw[←aB C.1];unfold jk at J;split at J
   .rename_i p q z he;simp only[hL]at J;try rw[he]
    exact hu.src J.1
   .cases J
  exact ret (m:=OZ bI (rd s x) (rd s y) (Wr s c)) I (zY (ds:=ds) (key:=key) h.toFR J b3 C.2) rfl
 case call f args=>
  simp only[ADH]at J;simp only[EE,IJ,hL]at C I aa fin;unfold Sm at J;split at J
  .rename_i f' xs bh he;simp only[hL,beq_iff_eq]at J;obtain⟨rfl,J⟩:=J;rw[ab (by simpa[BQ]using C.1)]at C I aa fin;obtain⟨e1,e2⟩:=MH (ds:=ds) hu J;have a8:=Kt (P:=P) (w:=w) (o:=o) (ρ:=({ tmps:=tmps,defers:=ds }:Act).eval) (f:=f') (v1:=#[]) (v2:=#[]) rfl he;rw[hE,hG]at a8;rw[a8];have:=ON (s:=unS s) (c:=⟨bI,f',args.map (rd (unS s))⟩) hT h.unS e1 e2 C.2 aa I;refine Kx this (fun v w' hR=>?_) (fun c w' hR=>?_) (fun w' hR=>?_)
   .obtain⟨v',e,hw,hv⟩:=hR;cases e;exact fin _ _ hw hv
   .obtain⟨v',e,_⟩:=hR;cases e
   .obtain⟨v',e,_⟩:=hR;cases e
  .cases J
 case callv f args=>
  simp only[ADH]at J;simp only[EE,IJ,hL]at C I aa fin;unfold Xr at J;split at J
  .rename_i y xs bh he;simp only[hL]at J;obtain⟨b4,J⟩:=J
   have R:Dc bI (rd s f)=bI/\(args.all fun x=>Dc bI (rd s x))=bI:=by
    simpa[BQ]using C.1
   rw[ab R.2,←aB R.1]at C I aa fin;obtain⟨e1,e2⟩:=MH (ds:=ds) hu J;have az:=hu.src (ds:=ds) b4
   have ba:(Li (args.map (rd (unS s))) (rd (unS s) f)).ok=bI:=by
    have:=C.2;simp only[DT,IJ,hL]at this;exact this.1
   obtain⟨b5,a1,a2,ea,be⟩:=Sj ba;rw[ea]at az;obtain⟨v1,v2,ev,n1,n2,h1,h2⟩:=az;rw[Kt (P:=P) (w:=w) (ρ:=({ tmps:=tmps,defers:=ds }:Act).eval) ev he];rw[be]at C I aa fin;obtain⟨q1,q2⟩:=Um (w:=w) (g:=g) n1 e1 n2 (fun j hj=>(h1 j hj).toSR) e2 (fun j hj=>(h2 j hj).toSR);have:=ON (s:=unS s) (c:=⟨bI,b5,a1++args.map (rd (unS s))++a2⟩) hT h.unS q1 q2 C.2 aa I;refine Kx this (fun v w' hR=>?_) (fun c w' hR=>?_) (fun w' hR=>?_)
   .obtain⟨v',e,hw,hv⟩:=hR;cases e;exact fin _ _ hw hv
   .obtain⟨v',e,_⟩:=hR;cases e
   .obtain⟨v',e,_⟩:=hR;cases e
  .cases J
 case callw f l=>exact absurd rfl (b0 f l)
 all_goals
  have ad:cG P vm ss o.op _=true:=J;unfold cG at ad;rw[hL]at ad;exact still ad.1 ad.2 (by first|rfl|(exact absurd ad.1 j9))
def AAK(hT:Ls P T)(h:FX F Iow w0 g0 o0 g w tmps vm ss s)(ab:RR vm)(hd:Fb vm ss o.dst D=cB ss')(R:∀d,o.dst=cB d->d<tmps.size){f:Nat}{args:List Src}(I:Sm vm ss f args o.op=bI)
  (J:(Lo T s key D ⟨args.all fun x=>Dc bI (rd s x),f,args.map (Wr s)⟩).ok=bI)
  (hK:∀j w' g',j.size=tmps.size->FX F Iow w0 g0 o0 g' w' j vm ss' (Lo T s key D ⟨args.all fun x=>Dc bI (rd s x),f,args.map (Wr s)⟩)->K ⟨j,ds⟩ w'):o.upon P ⟨tmps,ds⟩ K Q ((fm ({ tmps:=tmps,defers:=ds }:Act).eval o).run P w):=by
 have aa:=(QO J).2;have C:(args.all fun x=>Dc bI (rd s x))=true:=aa
 have e0:args.map (Wr s)=args.map (rd (unS s)):=by
  simp only[bR]at C;exact bN fun x hx=>(aB (C x hx)).symm
 unfold Sm at I;split at I
 .rename_i f' xs aj he;simp only[hL,beq_iff_eq]at I;obtain⟨rfl,I⟩:=I;obtain⟨e1,e2⟩:=MH (ds:=ds) h.toFR.unS I;rw[←e0]at e1 e2;have U:=Kt (P:=P) (w:=w) (o:=o) (ρ:=({ tmps:=tmps,defers:=ds }:Act).eval) (f:=f') (v1:=#[]) (v2:=#[]) rfl he;rw[hE,hG]at U;rw[U];exact Wz hT h ab hd R (c:=⟨args.all fun x=>Dc bI (rd s x),f',args.map (Wr s)⟩) e1 e2 J hK
 .cases I
def Vu(hT:Ls P T)(h:FX F Iow w0 g0 o0 g w tmps vm ss s)(aj:RR vm)(hn:tmps.size=n)(hc:lC P n ops vm ss o i=cB ss')(J:(Dp T s i).ok=bI)
  (hK:∀C w' g',C.size=n->FX F Iow w0 g0 o0 g' w' C vm ss' (Dp T s i)->K ⟨C,ds⟩ w') :
  if iR o (kA ops (⟨tmps,ds⟩:Act).tmps)then o.wp P ⟨tmps,ds⟩ w K Q else K ((⟨tmps,ds⟩:Act).put o.dst hY) w:=by
 have a8:∀{c:Bool} {x:Option (List Nat)},(bif c then x else fA)=cB ss'->c=bI/\x=cB ss':=by intro c x;cases c<;>simp
 unfold lC at hc;obtain⟨hb,hc⟩:=a8 hc
 .simp only[hL]at hb;obtain⟨ay,I,aa⟩:=hb;have U:∀d,o.dst=cB d->d<tmps.size:=fun d e=>by rw[e]at ay;simpa[uk,hn]using ay
  cases hg:i.guard with
  | none=>
   rw[hg]at I aa
   have ad:o.guard=fA:=by
    revert I;cases o.guard with
    |none=>intro _;rfl
    |some q=>intro I;simp[lI]at I
   rw[if_pos (by simp[iR,ad])];simp only[Dp,Xa,hg]at J hK;exact kE hT h aj hc U aa J fun C w' g' e ae=>hK C w' g' (by rw[e,hn]) ae
  | some gd=>
   obtain⟨x,want⟩:=gd;rw[hg]at I aa;simp only[Dp,Xa,hg]at J hK;cases ad:o.guard with
   |none=>rw[ad]at I;simp[lI]at I
   | some q=>
    obtain⟨j,R⟩:=q;rw[ad]at I;simp only[lI,hL,beq_iff_eq]at I;obtain⟨rfl,I⟩:=I;split at I
    .rename_i t ht;have h':=h.setOk (s.ok&&SS (rd s x))
     have a7:SS (rd s x)=bI:=by
      have:=oT J;simp at this;exact this.2
     have hw:iR o (kA ops tmps)=od R (rd s x):=by
      unfold iR;rw[ad];exact xo h.toFR ht I a7 R
     have a6:iR o (kA ops (⟨tmps,ds⟩:Act).tmps)=od R (rd s x):=hw;rw[a6];cases hv:od R (rd s x)with
     | true=>
      rw[hv]at J hK;rw[if_pos rfl]
      by_cases hw:∃f l,i.op = .callw f l
      .obtain⟨f,l,ew⟩:=hw;rw[ew]at J hK aa;simp only[Nr,rM,if_true]at J hK;exact AAK hT h' aj hc U aa J fun C w' g' e ae=>hK C w' g' (by rw[e,hn]) ae
      .have au:∀f l,i.op ≠ .callw f l:=fun f l e=>hw ⟨f,l,e⟩
       have e1:Nr T { s with ok:=s.ok&&SS (rd s x) } i.key i.dst bI i.op=Pa { s with ok:=s.ok&&SS (rd s x) } bI i.dst (EE T { s with ok:=s.ok&&SS (rd s x) } bI i.key i.op):=by
        unfold Nr;split
        .rename_i f l e;exact absurd e (au f l)
        .rfl
       rw[e1]at J hK;exact AAL hT h' aj hc U aa au J fun C w' g' e ae=>hK C w' g' (by rw[e,hn]) ae
     | false=>
      rw[hv]at J hK;rw[if_neg p',Qi]
      have e1:∃m,Nr T { s with ok:=s.ok&&SS (rd s x) } i.key i.dst bX i.op=Pa { s with ok:=s.ok&&SS (rd s x) } bX i.dst m:=by
       unfold Nr;split
       .exact⟨EK .any,by simp[rM]⟩
       .exact⟨_,rfl⟩
      obtain⟨m,e1⟩:=e1;rw[e1]at hK;exact hK _ _ _ (by rw[Lz,hn]) (h'.guardSkip aj hc U)
    .exact absurd I j9
def XW(hT:Ls P T)(J:RR vm):∀(os:List j6) (is:List Ng) {ss:List Nat} {s:St} {g:Gh} {w:cS} {tmps:Array Value},FX F Iow w0 g0 o0 g w tmps vm ss s->tmps.size=n->PR P n ops vm ss os is=cB ss'->(Gj T is s).ok=bI ->
  (∀j w' g',j.size=n->FX F Iow w0 g0 o0 g' w' j vm ss' (Gj T is s)->Q .normal ⟨j,ds⟩ w')->wpList P ops Q os ⟨tmps,ds⟩ w
 | [],[],ss,s,g,w,tmps,h,R,C,I,hK=>by
  simp only[PR,fs]at C;subst C;exact hK _ _ _ R h
 |[],_::_,_,_,_,_,_,_,_,C,_,_=>by simp[PR]at C
 |_::_,[],_,_,_,_,_,_,_,C,_,_=>by simp[PR]at C
 | o::os,i::is,ss,s,g,w,tmps,h,R,C,I,hK=>by
  simp only[PR]at C;split at C
  .rename_i aj aa;refine wpList_step fun K ab=>?_
   exact Vu hT h J R aa (OL is I) fun j w' g' e U=>ab _ _ (XW hT J os is U e C I hK)
  .cases C
end
def Nk:AV->Bool
 |.any=>bI
 |a=>EM a
def Nb(a b:AV):Prop:=(EM a=bI->b=a)/\(EM b=bI->EM a=bI)
def Nb.refl(a:AV):Nb a a:=⟨fun _=>rfl,id⟩
def Nb.trans{a b c:AV}(h:Nb a b)(k:Nb b c):Nb a c:=⟨fun e=>by
 have j:=h.1 e;have C:=k.1 (by rw[j];exact e);rw[C,j],fun e=>h.2 (k.2 e)⟩
def Phi(φ:AV->AV):Prop:=(∀a,Nk a=bI->φ a=a)/\∀a,EM (φ a)=bI->EM a=bI
def nG{a:AV}(h:EM a=bI):Nk a=bI:=by cases a<;>simp_all [Nk,EM]
def Phi.nb{φ:AV->AV}(h:Phi φ)(a:AV):Nb a (φ a):=⟨fun e=>h.1 a (nG e),h.2 a⟩
def tQ(d:Nat):Phi (bm d):=by
 refine⟨fun a h=>?_,fun a h=>?_⟩
 .cases a<;>simp[Nk,EM]at h<;>simp[bm,AV.keys,AV.key1]
 .unfold bm at h;rw[AM]at h;split at h
  .cases h
  .exact h
def Px(k:Nat):Phi (AV.kill k):=by
 refine⟨fun a h=>?_,fun a h=>?_⟩
 .cases a<;>simp[Nk,EM]at h<;>simp[AV.kill,AV.names,AV.keys,AV.key1]
 .unfold AV.kill at h;rw[AM]at h;split at h
  .cases h
  .exact h
def AAG(k:Nat)(hm:Hm):Phi (AV.fz k hm):=by
 refine⟨fun a h=>?_,fun a h=>?_⟩
 .cases a<;>simp[Nk,EM]at h<;>rfl
 .cases a<;>simp only[AV.fz]at h<;>first|rfl|(cases h;done)|(rw[AM]at h;split at h<;>cases h)
def Cv:Kc->Bool
 |.push=>bX
 |_=>bI
section
variable {s:St}{c:Bool}{v:AV}{D:Kc}
variable{φ:AV->AV}
def AEK(j:Phi φ)(C:Nk v=bI)(l:List AV)(n:Nat):(l.set n v).map φ=(l.map φ).set n v:=by
 rw[me,j.1 v C]
def VU(j:Phi φ)(C:Nk v=bI)(I:Cv D=bI)(ob:Cx):
  ({ vs:=(BH s c v D).vs.map φ,st:=(BH s c v D).st.map φ,ob:=ob,ok:=(BH s c v D).ok }:St)=BH { vs:=s.vs.map φ,st:=s.st.map φ,ob:=ob,ok:=s.ok } c v D:=by
 cases D<;>simp only[BH,AEK j C]
 cases I
def IG:(BH s c v D).ob=s.ob:=by cases D<;>rfl
def zy(b:Bool):({ BH s c v D with ok:=(BH s c v D).ok&&b }:St)=BH { s with ok:=s.ok&&b } c v D:=by
 cases D<;>simp only[BH,iB]
def nW(j:Nk v=bI)(C:Cv D=bI)(k:Nat)(h:Option Hm):k7 (BH s c v D) k h=BH (k7 s k h) c v D:=by
 cases h with
 |none=>rfl
 |some h=>simp only[k7,IG];exact VU (AAG k h) j C _
def Gq(j:Nk v=bI)(C:Cv D=bI):∀(ks:List Nat) (s:St),et (BH s c v D) ks=BH (et s ks) c v D
 |[],_=>rfl
 | k::r,s=>by
  simp only[et,IG];rw[nW j C];exact Gq j C r _
def zz(j:Nk v=bI)(C:Cv D=bI)(k:Nat):ml (BH s c v D) k=BH (ml s k) c v D:=by
 simp only[ml,IG];exact VU (Px k) j C _
def xB(j:Nk v=bI)(C:Cv D=bI)(d:Nat):clear (BH s c v D) d=BH (clear s d) c v D:=by
 unfold Go.Proofs.YtegmpdmpgmpiaaaGreatDoor.clear;rw[IG,AM,AM];split
 .exact VU (tQ d) j C _
 .rfl
def qi(hs:Cx):Tq (BH s c v D) hs=BH (Tq s hs) c v D:=by
 cases D<;>rfl
def XK(ob:Cx):({ BH s c v D with ob:=ob }:St)=BH { s with ob:=ob } c v D:=by cases D<;>rfl
def Hl:fail (BH s c v D)=BH (fail s) c v D:=by cases D<;>simp[fail,BH]
def LZ:Kc->Kc->Bool
 |.var n,.var m=>n==m
 |.slot n,.slot m=>n==m
 |_,_=>bX
def UJ(D E:Kc):LZ D E=LZ E D:=by
 cases D<;>cases E<;>first|rfl|(simp only[LZ];rw[Bool.eq_iff_iff,beq_iff_eq,beq_iff_eq];exact eq_comm)
variable{E:Kc}
def VT{j:Bool}{a:AV}(C:Cv D=bI)(I:Cv E=bI)(h:LZ D E=bX):BH (BH s c v D) j a E=BH (BH s j a E) c v D:=by
 have hb:(s.ok&&c&&j)=(s.ok&&j&&c):=iB _ _ _
 cases D<;>simp only[Cv]at C<;>(try(cases C;done))<;>cases E<;>simp only[Cv]at I<;>(try(cases I;done))<;>simp only[BH,hb] <;>
  (try(simp only[LZ,beq_eq_false_iff_ne]at h;rw[l' _ _ h]))
def Lr(D E:Kc):Bool:=Cv E && !LZ D E
def zx(J:Nk v=bI)(C:Cv D=bI)(j:Lr D E=bI)(key:Nat)(I:Bool)(a:AV)(hs:Cx):VW (BH s c v D) key E I a hs=BH (VW s key E I a hs) c v D:=by
 simp only[Lr,hL,cA]at j;cases hs with
 |nil=>exact VT C j.1 j.2
 | cons h hs=>
  simp only[VW];rw[xB J C,qi];exact VT C j.1 j.2
def MS(j:Nk v=bI)(C:Cv D=bI)(I:Lr D E=bI)(key:Nat)(m:Mk):EH (BH s c v D) key E m=BH (EH s key E m) c v D:=zx j C I key _ _ _
def jy(I:Nk v=bI)(J:Cv D=bI):∀(ms:List Md) (j os:List AV) (s:St),Ak (BH s c v D) ms j os=BH (Ak s ms j os) c v D:=by
 intro ms
 induction ms with
 | nil=>
  intro j os s;cases j<;>cases os<;>simp only[Ak]<;>first|rfl|exact Hl
 | cons m ms C=>
  intro j os s;cases m<;>cases j<;>(try(simp only[Ak];exact Hl))<;>cases os<;>(try(simp only[Ak];exact Hl))
  .simp only[Ak];exact C _ _ _
  .rename_i a j o os;cases a<;>(try(simp only[Ak];exact Hl))
   .cases o<;>(try(simp only[Ak];exact Hl))
    simp only[Ak,IG,XK];exact C _ _ _
   .rename_i k i off;cases off<;>cases o<;>(try(simp only[Ak];exact Hl))
    simp only[Ak,IG,XK];exact C _ _ _
  .rename_i a j o os;cases a<;>(try(simp only[Ak];exact Hl))
   .simp only[Ak];exact C _ _ _
   .simp only[Ak];rw[zz I J];exact C _ _ _
def zw(j:Nk v=bI)(I:Cv D=bI)(C:Ao)(args:List AV):Uv C (BH s c v D) args=BH (Uv C s args) c v D:=by
 unfold Uv;rw[AM,AM];split
 .rfl
 .exact Gq j I _ _
def xC(j:Nk v=bI)(I:Cv D=bI)(J:Lr D E=bI)(key:Nat)(args:List AV)(C:Option Ao):PT (BH s c v D) key E args C=BH (PT s key E args C) c v D:=by
 cases C with
 |none=>exact Hl
 | some C=>
  simp only[PT,QQ,IG];rw[zw j I,jy j I,MS j I J]
def UM{T:Le}(j:Nk v=bI)(C:Cv D=bI)(I:Lr D E=bI)(key:Nat)(q:Cal):Lo T (BH s c v D) key E q=BH (Lo T s key E q) c v D:=by
 unfold Lo;rw[zy];exact xC j C I _ _ _
def qk(sz:Nat)(x p:AV):MN (BH s c v D) sz x p=BH (MN s sz x p) c v D:=by
 cases p<;>(try exact Hl)
 rename_i k i off;simp only[MN,IG];cases AK k s.ob with
 |none=>exact Hl
 | some h=>
  simp only[Tv,VC,IG];cases D<;>simp only[BH,iB]
def AAC(I:Nk v=bI)(C:Cv D=bI)(j:Lr D E=bI)(key sz bytes:Nat)(y:Ap)(a:AV):Uo (BH s c v D) key E sz bytes y a=BH (Uo s key E sz bytes y a) c v D:=by
 cases a<;>(try exact Hl)
 .exact MS I C j _ _
 .rename_i k;simp only[Uo,IG];cases AK k s.ob with
  |none=>exact Hl
  | some h=>
   simp only[Xt];rw[VU (Px k) I C];simp only[Lr,hL,cA]at j;simp only[IG];exact VT C j.1 j.2
end
variable{s:St}{c:Bool}{D:Kc}
def qj{v:AV}(I:Nk v=bI)(C:Cv D=bI){E:Kc}(j:Lr D E=bI)(sz:Nat)(n:Int)(a:AV):ML (BH s c v D) E sz n a=BH (ML s E sz n a) c v D:=by
 cases a<;>(try exact Hl)
 rename_i k;simp only[ML,IG];cases AK k s.ob with
 |none=>exact Hl
 | some h=>
  simp only[Wt];rw[VU (Px k) I C];simp only[Lr,hL,cA]at j;simp only[IG];exact VT C j.1 j.2
def Xd:Kc->Src->Bool
 |.var n,.v m=>n==m
 |.slot n,.s m=>n==m
 |_,_=>bX
def Qh{a:AV}{x:Src}(C:Cv D=bI)(j:Xd D x=bX):rd (BH s c a D) x=rd s x:=by
 cases D<;>simp only[Cv]at C<;>(try(cases C;done))<;>cases x<;>simp only[BH,rd]<;>simp only[Xd,beq_eq_false_iff_ne]at j
 .rename_i n m;simp only[kf,hW j]
 .rename_i n m;simp only[kf,hW j]
def CT:KW->List Src
 |.store _ p x=>[p,x]
 |.app _ _ _ a x=>[a,x]
 |.callp _ args=>args
 |.callw _ args=>args
 |.pur a=>BQ a
 |.pick c a b=>[c,a,b]
 |.mkFn _ fi ca=>fi++ca
 |.flat a=>GD a
 |.safe _ a=>Eu a
 |a=>BQ a
section
variable {s:St}{c:Bool}{v:AV}{D:Kc}{T:Le}
def Nv{r r':Src->AV}{ob:Cx}{d:Nat}{a:KW}(h:∀x,x∈CT a->r x=r' x):AP r ob d a=AP r' ob d a:=by
 cases a<;>simp only[CT,BQ]at h<;>(try(simp only[AP];done))
 case mkFn f fi ca=>
  simp only[AP];rw[bN (l:=fi) fun x j=>h x (bS.2 (.inl j)),bN (l:=ca) fun x j=>h x (bS.2 (.inr j))]
 all_goals exact Iw rfl (by simpa only[BQ]using h)
def qm{s s':St}{key:Nat}{a:KW}(j:s'.ob=s.ob)(h:∀x,x∈BQ a->rd s' x=rd s x):LQ T s' key a=LQ T s key a:=by
 cases a
 case call f args=>simp only[BQ]at h;simp only[LQ,j];rw[bN h]
 case callv f args=>
  simp only[BQ]at h;simp only[LQ,j];rw[bN (l:=args) fun x C=>h x (j5 _ C),h f p']
 all_goals first
  |(simp only[LQ,j];rw[Iw rfl h];done)
  |rfl
variable{r r':Src->AV}{key:Nat}{a:KW}
def pA(h:∀x,x∈GD a->r x=r' x):Ks T r key a=Ks T r' key a:=by
 cases a<;>simp only[GD]at h<;>(try rfl)
 case callp f args=>simp only[Ks];rw[bN h]
 case pur b=>
  cases b<;>(try rfl)
  rename_i sz x lo hi;simp only[Ks];rw[Iw (a:=.slice sz x lo hi) rfl h]
 all_goals
  simp only[Ks];rw[Iw rfl h]
def YV{s s':St}{key:Nat}{a:KW}(h:∀x,x∈GD a->rd s' x=rd s x):PN ((GD a).all fun x=>EM (rd s' x)) (Ks T (rd s') key a)=PN ((GD a).all fun x=>EM (rd s x)) (Ks T (rd s) key a):=by
 rw[pA h]
 congr 1
 have:∀l:List Src,(∀x,x∈l->rd s' x=rd s x)->(l.all fun x=>EM (rd s' x))=l.all fun x=>EM (rd s x):=by
  intro l j
  induction l with
  |nil=>rfl
  |cons y l C=>simp only[j0];rw[j y p',C fun x I=>j x (by simp[I])]
 exact this _ h
def aE{ob:Cx}{d:Nat}(h:∀x,x∈BQ a->r x=r' x):SB T r ob d a=SB T r' ob d a:=by
 by_cases j:Az a=bI
 .cases a
  case call f args=>
   simp only[BQ]at h;simp only[SB];rw[bN h]
  case callv f args=>
   simp only[BQ]at h;simp only[SB];rw[bN (l:=args) fun x I=>h x (j5 _ I),h f p']
  all_goals first
   |(exfalso;simp[Az]at j;done)
   |(simp only[SB];rw[Iw j h])
 .have C:Az a=bX:=by simpa using j
  cases a
  case call f args=>simp[Az]at j
  case callv f args=>simp[Az]at j
  all_goals(simp only[SB];rw[C];rfl)
def YI{r r':Src->AV}{ob:Cx}{key:Nat}{a:KW}(h:∀x,x∈Eu a->r x=r' x):LP T r ob key a=LP T r' ob key a:=by
 cases a
 case pur b=>
  have j:∀x,x∈BQ b->r x=r' x:=h;clear h;cases b
  case callv=>rfl
  all_goals
   simp only[LP];exact aE j
 case pick c x y=>
  simp only[Eu]at h;simp only[LP];rw[h c p',h x p',h y p']
 case callp f args=>
  simp only[Eu]at h;simp only[LP];rw[bN h]
 case mkFn f fi ca=>
  simp only[LP];rw[Nv (a:=.mkFn f fi ca) h]
 all_goals first
  |rfl
  |(simp only[LP];rw[Nv (by simpa only[CT,Eu]using h)])
def YH{r r':Src->AV}{ob:Cx}{key:Nat}{ds:List Nat}{a:KW}(h:∀x,x∈Eu a->r x=r' x):Mn T r ob key ds a=Mn T r' ob key ds a:=by
 unfold Mn;rw[YI h]
 congr 1
 have:∀l:List Src,(∀x,x∈l->r x=r' x)->(l.all fun x=>Qk ds (r x))=l.all fun x=>Qk ds (r' x):=by
  intro l j
  induction l with
  |nil=>rfl
  |cons y l C=>simp only[j0];rw[j y p',C fun x I=>j x (by simp[I])]
 exact this _ h
variable{E:Kc}
def AAB(J:Nk v=bI)(C:Cv D=bI)(U:Lr D E=bI)(hr:∀x,x∈CT a->Xd D x=bX):DF T (BH s c v D) key E a=BH (DF T s key E a) c v D:=by
 have j:∀x,x∈CT a->∀s c,rd (BH s c v D) x=rd s x:=fun x I s c=>Qh C (hr x I)
 have R:∀l:List Src,(∀x,x∈l->x∈CT a)->l.map (rd (BH s c v D))=l.map (rd s):=fun l hl=>bN fun x I=>j x (hl x I) s c
 have st:∀b:KW,CT b=CT a->∀s:St,EH (BH s c v D) key E (AP (rd (BH s c v D)) (BH s c v D).ob key b)=BH (EH s key E (AP (rd s) s.ob key b)) c v D:=fun b hb s=>by
  rw[IG,Nv (r':=rd s) fun x I=>j x (hb▸I) s c];exact MS J C U _ _
 cases a
 case store sz p x=>
  simp only[DF];rw[j x (by simp[CT]),Gq J C,j x (by simp[CT]),j p (by simp[CT])];exact qk _ _ _
 case app sz bytes z y x=>
  simp only[DF,IG];rw[j x (by simp[CT]),j y (by simp[CT])];exact AAC J C U _ _ _ _ _
 case call f args=>
  simp only[DF];rw[R args fun x I=>by simpa[CT,BQ]using I];exact UM J C U _ _
 case callv f args=>
  simp only[DF];rw[R args fun x I=>by simp[CT,BQ,I],j f (by simp[CT,BQ])];exact UM J C U _ _
 case callp f args=>
  simp only[DF,IG];rw[R args fun x I=>by simpa[CT]using I];exact MS J C U _ _
 case pur b=>
  simp only[DF];rw[qm (s:=s) IG fun x I=>j x (by simpa[CT]using I) s c];exact MS J C U _ _
 case callw f args=>exact Hl
 case flat b=>
  simp only[DF];rw[YV (s:=s) (s':=BH s c v D) fun x I=>j x (by simpa[CT]using I) s c];exact MS J C U _ _
 case pick q x y=>
  simp only[DF];rw[j q (by simp[CT]),j x (by simp[CT]),j y (by simp[CT])];exact MS J C U _ _
 case trunc sz x y=>
  simp only[DF];rw[j x (by simp[CT,BQ]),j y (by simp[CT,BQ])];exact qj J C U _ _ _
 case movz x=>
  simp only[DF];rw[j x (by simp[CT,BQ]),Gq J C];exact st (.mov x) rfl _
 case safe ks b=>
  simp only[DF];rw[IG,YH (r':=rd s) fun x I=>j x (by simpa[CT]using I) s c];exact MS J C U _ _
 case box x=>
  simp only[DF];rw[j x (by simp[CT,BQ]),Gq J C,j x (by simp[CT,BQ])];exact MS J C U _ _
 case build z ps=>
  simp only[DF]
  have hk:Db (BH s c v D) (.build z ps)=Db s (.build z ps):=by
   simp only[Db,lz];rw[bN fun p hq=>by rw[j p.2.2 (fB.2 ⟨p,hq,rfl⟩) s c]]
  rw[hk,Gq J C];exact st _ rfl _
 case mkSl sz z n ps=>
  simp only[DF]
  have hk:Db (BH s c v D) (.mkSl sz z n ps)=Db s (.mkSl sz z n ps):=by
   simp only[Db,lz];rw[bN fun p hq=>by rw[j p.2 (fB.2 ⟨p,hq,rfl⟩) s c]]
  rw[hk,Gq J C];exact st _ rfl _
 case slice sz x lo hi=>
  simp only[DF];rw[j x (by simp[CT,BQ]),Gq J C];exact st _ rfl _
 all_goals
  simp only[DF];exact st _ rfl _
variable{x:Src}
def zp{s:St}:Wr s x=(match x with |.c a=>a|x=>KX (rd s x)):=by cases x<;>rfl
variable{s':St}
def zq{s:St}(h:rd s' x=rd s x):Wr s' x=Wr s x:=by
 rw[zp,zp];cases x<;>simp only[h]
def xH(h:x∈BQ a):x∈CT a:=by
 cases a<;>first|exact h|(simp[BQ]at h)
def Up{f g:Src->Bool}:∀{l:List Src},(∀x,x∈l->f x=g x)->l.all f=l.all g
 |[],_=>rfl
 |x::l,h=>by simp only[j0];rw[h x p',Up fun y j=>h y (by simp[j])]
variable{w:Bool}
def bE{s:St}(I:s'.ob=s.ob)(h:∀x,x∈CT a->rd s' x=rd s x):EE T s' w key a=EE T s w key a:=by
 have hu:∀x,x∈CT a->Wr s' x=Wr s x:=fun x C=>zq (h x C)
 have j:((BQ a).all fun x=>Dc w (rd s' x))=(BQ a).all fun x=>Dc w (rd s x):=Up fun x C=>by rw[h x (xH C)]
 have J:IJ (Az a&&(BQ a).all fun x=>Dc w (rd s' x)) (TW (AP (Wr s') s'.ob key a))=IJ (Az a&&(BQ a).all fun x=>Dc w (rd s x)) (TW (AP (Wr s) s.ob key a)):=by
  rw[j,I,Nv hu]
 cases a
 case pick q x y=>
  simp only[EE];rw[h q (by simp[CT]),h x (by simp[CT]),h y (by simp[CT]),hu q (by simp[CT])]
 case call f args=>
  simp only[EE,I];rw[j,bN (l:=args) fun x C=>hu x (by simpa[CT,BQ]using C)]
 case callv f args=>
  simp only[EE,I];rw[j,bN (l:=args) fun x C=>hu x (by simp[CT,BQ,C]),hu f (by simp[CT,BQ])]
 all_goals exact J
def nU(I:Nk v=bI)(C:Cv D=bI)(j:Lr D E=bI)(w:Bool)(m:Mk):Pa (BH s c v D) w E m=BH (Pa s w E m) c v D:=by
 simp only[Lr,hL,cA]at j;exact VT C j.1 j.2
def wy(R:Nk v=bI)(J:Cv D=bI)(U:Lr D E=bI)(hr:∀x,x∈CT a->Xd D x=bX):Nr T (BH s c v D) key E w a=BH (Nr T s key E w a) c v D:=by
 have j:∀x,x∈CT a->rd (BH s c v D) x=rd s x:=fun x C=>Qh J (hr x C)
 have I:∀b:KW,b=a->Pa (BH s c v D) w E (EE T (BH s c v D) w key b)=BH (Pa s w E (EE T s w key b)) c v D:=fun b hb=>by
  subst hb;rw[bE IG j];exact nU R J U _ _
 cases a
 case callw f args=>
  simp only[Nr,rM];split
  .have e1:(args.all fun x=>Dc bI (rd (BH s c v D) x))=args.all fun x=>Dc bI (rd s x):=Up fun x C=>by rw[j x (by simpa[CT]using C)]
   rw[e1,bN (l:=args) fun x C=>zq (j x (by simpa[CT]using C))];exact UM R J U _ _
  .exact nU R J U _ _
 all_goals exact I _ rfl
def Oh(i:Ng):List Src:=(match i.guard with|some g=>[g.1]|none=>[])++CT i.op
variable{i:Ng}
def xA(J:Nk v=bI)(I:Cv D=bI)(U:Lr D i.dst=bI)(j:∀x,x∈Oh i->Xd D x=bX):Dp T (BH s c v D) i=BH (Dp T s i) c v D:=by
 unfold Dp;unfold Oh at j;cases R:i.guard with
 |none=>rw[R]at j;simp only[Xa];exact AAB J I U fun x C=>j x (by simpa using C)
 | some g=>
  rw[R]at j;simp only[Xa];rw[Qh I (j g.1 p'),zy];exact wy J I U fun x C=>j x (by simp[C])
def Yf(s s':St):Prop:=∀x,Nb (rd s x) (rd s' x)
def Yf.refl(s:St):Yf s s:=fun x=>Nb.refl _
def Yf.trans{a b d:St}(h:Yf a b)(k:Yf b d):Yf a d:=fun x=>(h x).trans (k x)
def aK{φ:AV->AV}(j:Phi φ)(s:St)(ob:Cx)(ok:Bool):Yf s { vs:=s.vs.map φ,st:=s.st.map φ,ob:=ob,ok:=ok }:=by
 have C:φ .any = .any:=j.1 _ rfl;intro x;cases x
 .simp only[rd];rw[CA φ C];exact j.nb _
 .simp only[rd];rw[CA φ C];exact j.nb _
 .exact Nb.refl _
def Fl{s s':St}(j:s'.vs=s.vs)(h2:s'.st=s.st):Yf s s':=by
 intro x;cases x<;>simp only[rd,j,h2]<;>exact Nb.refl _
def Ik:∀(ks:List Nat) (s:St),Yf s (et s ks)
 |[],s=>Yf.refl s
 | k::r,s=>by
  simp only[et];refine Yf.trans ?_ (Ik r _);cases AK k s.ob with
  |none=>exact Yf.refl _
  |some h=>exact aK (AAG k h) _ _ _
def AAY(d:Nat)(s:St):Yf s (clear s d):=by
 unfold Go.Proofs.YtegmpdmpgmpiaaaGreatDoor.clear;rw[AM];split
 .exact aK (tQ d) _ _ _
 .exact Yf.refl _
def NbE(E:Kc)(s s':St):Prop:=∀x,Xd E x=bX->Nb (rd s x) (rd s' x)
def TD(C:Cv E=bI){s:St}(h:Yf s s')(c:Bool)(a:AV):NbE E s (BH s' c a E):=fun x j=>by
 rw[Qh C j];exact h x
def PH(j:Cv E=bI){s:St}(h:Yf s s')(key:Nat)(m:Mk):NbE E s (EH s' key E m):=by
 unfold EH;cases m.hs with
 |nil=>exact TD j h _ _
 | cons p r=>
  simp only[VW];refine TD j ?_ _ _;refine h.trans ((AAY key s').trans ?_);exact Fl rfl rfl
def ni:∀(ms:List Md) (j os:List AV) (s:St),Yf s (Ak s ms j os):=by
 intro ms
 induction ms with
 | nil=>
  intro j os s;cases j<;>cases os<;>simp only[Ak]<;>exact Fl rfl rfl
 | cons m ms C=>
  intro j os s;cases m<;>cases j<;>(try(simp only[Ak];exact Fl rfl rfl))<;>cases os<;>(try(simp only[Ak];exact Fl rfl rfl))
  .simp only[Ak];exact C _ _ _
  .rename_i a j o os;cases a<;>(try(simp only[Ak];exact Fl rfl rfl))
   .cases o<;>(try(simp only[Ak];exact Fl rfl rfl))
    simp only[Ak];refine Yf.trans ?_ (C _ _ _);exact Fl rfl rfl
   .rename_i k i off;cases off<;>cases o<;>(try(simp only[Ak];exact Fl rfl rfl))
    simp only[Ak];refine Yf.trans ?_ (C _ _ _);exact Fl rfl rfl
  .rename_i a j o os;cases a<;>(try(simp only[Ak];exact Fl rfl rfl))
   .simp only[Ak];exact C _ _ _
   .simp only[Ak];exact Yf.trans (aK (Px _) _ _ _) (C _ _ _)
def XS(j:Cv E=bI)(s:St)(key:Nat)(q:Cal):NbE E s (Lo T s key E q):=by
 unfold Lo;cases T q.f with
 |none=>exact fun x _=>Fl (s:=s) rfl rfl x
 | some C=>
  simp only[PT,QQ];refine PH j ?_ _ _;refine Yf.trans ?_ (ni _ _ _ _);unfold Uv;rw[AM];split
  .exact Fl rfl rfl
  .refine Yf.trans ?_ (Ik _ _);exact Fl rfl rfl
def AAW(s:St)(sz:Nat)(x p:AV):Yf s (MN s sz x p):=by
 cases p<;>(try exact Fl rfl rfl)
 rename_i k i off;simp only[MN];cases AK k s.ob<;>exact Fl rfl rfl
def AKk(j:Cv E=bI)(s:St)(key sz bytes:Nat)(y:Ap)(a:AV):NbE E s (Uo s key E sz bytes y a):=by
 cases a<;>(try(exact fun x _=>Fl (s:=s) rfl rfl x))
 .exact PH j (Yf.refl s) _ _
 .rename_i k;simp only[Uo];cases AK k s.ob with
  |none=>exact fun x _=>Fl (s:=s) rfl rfl x
  |some h=>exact TD j (aK (Px k) _ _ _) _ _
def AAV(j:Cv E=bI)(s:St)(sz:Nat)(n:Int)(a:AV):NbE E s (ML s E sz n a):=by
 cases a<;>(try(exact fun x _=>Fl (s:=s) rfl rfl x))
 rename_i k;simp only[ML];cases AK k s.ob with
 |none=>exact fun x _=>Fl (s:=s) rfl rfl x
 |some h=>exact TD j (aK (Px k) _ _ _) _ _
def AEh(j:Cv E=bI)(s:St)(key:Nat)(a:KW):NbE E s (DF T s key E a):=by
 cases a<;>simp only[DF]
 case store=>exact fun x _=>((Ik _ s).trans (AAW _ _ _ _)) x
 case app=>exact AKk j _ _ _ _ _ _
 case call=>exact XS j _ _ _
 case callv=>exact XS j _ _ _
 case callw=>exact fun x _=>Fl (s:=s) rfl rfl x
 case box=>exact PH j (Ik _ s) _ _
 case build=>exact PH j (Ik _ s) _ _
 case mkSl=>exact PH j (Ik _ s) _ _
 case slice=>exact PH j (Ik _ s) _ _
 case movz=>exact PH j (Ik _ s) _ _
 case trunc=>exact AAV j _ _ _ _
 all_goals exact PH j (Yf.refl s) _ _
def AAX(C:Cv i.dst=bI)(s:St):NbE i.dst s (Dp T s i):=by
 unfold Dp;cases i.guard with
 |none=>exact AEh C s _ _
 | some g=>
  simp only[Xa];have I:Yf s { s with ok:=s.ok&&SS (rd s g.1) }:=Fl rfl rfl;have j:∀m,NbE i.dst s (Pa { s with ok:=s.ok&&SS (rd s g.1) } (od g.2 (rd s g.1)) i.dst m):=fun m=>TD C I _ _
  cases i.op
  case callw f args=>
   simp only[Nr,rM];split
   .exact fun x J=>(I x).trans (XS C _ _ _ x J)
   .exact TD C I _ _
  all_goals exact j _
def AFk{s s':St}{key:Nat}{a:KW}(h:∀x,x∈GD a->Nb (rd s x) (rd s' x)):PN ((GD a).all fun x=>EM (rd s' x)) (Ks T (rd s') key a)=PN ((GD a).all fun x=>EM (rd s x)) (Ks T (rd s) key a):=by
 by_cases hs:∀x,x∈GD a->EM (rd s x)=bI
 .exact YV fun x j=>(h x j).1 (hs x j)
 .have I:((GD a).all fun x=>EM (rd s x))=bX:=by
   rw[k3];exact fun c=>hs (bR.1 c)
  have C:((GD a).all fun x=>EM (rd s' x))=bX:=by
   rw[k3];exact fun c=>hs fun x j=>(h x j).2 (bR.1 c x j)
  rw[I,C];rfl
def jP{b:Bool}{m:Mk}:Nk (PN b m).v=bI/\(PN b m).hs=[]:=by
 unfold PN;rw[AM];split
 .rename_i h;simp only[hL]at h;exact⟨nG h.2.2,rfl⟩
 .exact⟨rfl,rfl⟩
def kP(i:Ng):Bool:=i.guard.isNone&&(match i.op with
 |.flat _=>bI
 |_=>bX)
def ox{s:St}{j:Ng}(C:kP j=bI)(J:Cv i.dst=bI)(U:Cv j.dst=bI)(hd:LZ j.dst i.dst=bX)(h1:∀x,x∈Oh j->Xd i.dst x=bX)(h2:∀x,x∈Oh i->Xd j.dst x=bX):
  Dp T (Dp T s i) j=Dp T (Dp T s j) i:=by
 obtain⟨D,key,gd,op⟩:=j;simp only[kP,hL,iI]at C;obtain⟨rfl,I⟩:=C;cases op<;>(try(cases I;done))
 rename_i a
 have C:∀s:St,Dp T s ⟨D,key,fA,.flat a⟩=BH s (PN ((GD a).all fun x=>EM (rd s x)) (Ks T (rd s) key a)).ok (PN ((GD a).all fun x=>EM (rd s x)) (Ks T (rd s) key a)).v D:=fun s=>by
  simp only[Dp,Xa,DF];unfold EH;rw[jP.2];rfl
 rw[C,C,AFk (s:=s) fun x R=>AAX J s x (h1 x (by simpa[Oh,CT]using R))];refine(xA jP.1 U ?_ h2).symm;simp only[Lr,hL,cA];exact⟨J,hd⟩
end
def XY:KW->Bool
 |.mov _=>bI
 |.load _ _ _=>bI
 |.nilck _=>bI
 |.bin _ _ _ _=>bI
 |.eqA _ _ _ _=>bI
 |.un _ _=>bI
 |.conv _ _=>bI
 |.b2s _=>bI
 |.mkFn _ _ _=>bI
 |.fldAddr _ _=>bI
 |.fld _ _ _ _=>bI
 |.ixAddr _ _ _=>bI
 |.ixStr _ _=>bI
 |.ext _ _=>bI
 |.len _ _=>bI
 |.minmax _ _=>bI
 |.pick _ _ _=>bI
 |.callp _ _=>bI
 |.pur _=>bI
 |.safe _ _=>bI
 |_=>bX
def kO:KW->Bool
 |.pick _ _ _=>bI
 |_=>bX
def RG(i:Ng):Bool:=match i.guard with
 |some _=>Az i.op||kO i.op
 |none=>XY i.op
def Nh:KW->List Src
 |.mkFn _ fi ca=>fi++ca
 |.pick c a b=>[c,a,b]
 |.callp _ args=>args
 |.pur a=>BQ a
 |.safe _ a=>Eu a
 |a=>BQ a
def iQ(i:Ng):List Src:=(match i.guard with|some g=>[g.1]|none=>[])++Nh i.op
def AIx(i j:Ng):Bool:=Cv i.dst&&(Cv j.dst&&(!LZ i.dst j.dst&&((Oh j).all (fun x=>!Xd i.dst x)&&(Oh i).all (fun x=>!Xd j.dst x))))
def Pv(r:Src->AV):Src->AV
 |.c a=>a
 |x=>KX (r x)
variable{T:Le}{r:Src->AV}{ob:Cx}{key:Nat}{a:KW}
def AEb:(SB T r ob key a).hs=[]:=by cases a<;>simp only[SB,AM]<;>(try split)<;>rfl
def rh(T:Le)(r:Src->AV)(ob:Cx)(key:Nat):KW->Bool×AV
 |.pur a=>((SB T r ob key a).ok,(SB T r ob key a).v)
 |.pick c a b=>((OZ bI (r a) (r b) (r c)).ok,(OZ bI (r a) (r b) (r c)).v)
 |.callp f args=>((MA (DT T ob ⟨bI,f,args.map r⟩)).ok,(MA (DT T ob ⟨bI,f,args.map r⟩)).v)
 |.safe ds a=>((Mn T r ob key ds a).ok,(Mn T r ob key ds a).v)
 |op=>((AP r ob key op).ok,(AP r ob key op).v)
def JZ(T:Le)(r:Src->AV)(ob:Cx)(w:Bool)(key:Nat):KW->Mk
 |.pick c a b=>IJ (Dc w (r c)) (OZ w (r a) (r b) (Pv r c))
 |.call f args=>IJ ((BQ (.call f args)).all fun x=>Dc w (r x)) (DT T ob ⟨bI,f,args.map (Pv r)⟩)
 |.callv f args=>IJ ((BQ (.callv f args)).all fun x=>Dc w (r x)) (DT T ob (Li (args.map (Pv r)) (Pv r f)))
 |op=>IJ (Az op&&(BQ op).all fun x=>Dc w (r x)) (TW (AP (Pv r) ob key op))
def eff(T:Le)(r:Src->AV)(ob:Cx)(i:Ng):Bool×AV :=
 match i.guard with
 |none=>rh T r ob i.key i.op
 | some g=>(SS (r g.1)&&(!od g.2 (r g.1)||((JZ T r ob (od g.2 (r g.1)) i.key i.op).ok&&((JZ T r ob (od g.2 (r g.1)) i.key i.op).hs.isEmpty&&(JZ T r ob (od g.2 (r g.1)) i.key i.op).v.lone))),
   .opt (od g.2 (r g.1)) (JZ T r ob (od g.2 (r g.1)) i.key i.op).v)
def zr(s:St):Pv (rd s)=Wr s:=by funext x;cases x<;>rfl
def AEZ{T:Le}{r:Src->AV}{ob:Cx}{key:Nat}{a:KW}(h:XY a=bI)(I:∀x y z,a ≠ .pick x y z)(J:∀f l,a ≠ .callp f l)(C:∀x,a ≠ .pur x)(j:∀q x,a ≠ .safe q x):(AP r ob key a).hs=[]:=by
 cases a<;>simp only[XY]at h<;>(try(cases h;done))<;>simp only[AP]
 case mov=>rfl
 case load agg sz p=>
  cases r p<;>simp only[PI]<;>try rfl
  .exact VZ _ _ _ _
  .rename_i k i off;cases AK k ob<;>first|rfl|exact VZ _ _ _ _
 case nilck x=>cases r x<;>simp only[Pc]<;>(try rfl)<;>(rename_i f _ _;cases f<;>rfl)
 case bin bl op x y=>
  unfold cD;split
  .rw[AM];split
   .unfold shB;split<;>rfl
   .simp only[IJ];unfold Ox;split<;>rfl
  .unfold Wy;split<;>rfl
  .simp only[IJ];unfold jl;split<;>rfl
  .rfl
 case eqA neg ks x y=>unfold Sf;split<;>rfl
 case un op x=>unfold kz;split<;>(try rfl)<;>(split<;>rfl)
 case conv k x=>unfold bd;split<;>rfl
 case b2s x=>cases r x<;>simp only[Yp]<;>(try rfl);rename_i k;cases AK k ob<;>rfl
 case mkFn=>rfl
 case fldAddr off p=>unfold Nc;split<;>rfl
 case fld agg off sz x=>simp only[IJ];exact VZ _ _ _ _
 case ixAddr sz x i=>cases r x<;>simp only[MW]<;>(try rfl);rename_i k;cases AK k ob<;>rfl
 case ixStr x i=>unfold SJ;split<;>rfl
 case ext x i=>unfold pE;split<;>rfl
 case len st x=>cases r x<;>simp only[Yk]<;>(try rfl);rename_i k;cases AK k ob<;>rfl
 case minmax mx xs=>unfold mmA;split<;>rfl
 case pick c a b=>exact absurd rfl (I _ _ _)
 case callp f l=>exact absurd rfl (J _ _)
 case pur x=>exact absurd rfl (C _)
 case safe q x=>exact absurd rfl (j _ _)
def nH{ds:List Nat}:(Mn T r ob key ds a).hs=[]:=by
 unfold Mn Zs;rw[AM];split<;>rfl
variable{w c:Bool}{b:AV}
def AAF{a c:AV}:(OZ w a b c).hs=[]:=by unfold OZ;split<;>rfl
variable{s:St}{D:Kc}
def Pw{m:Mk}(h:m.hs=[]):EH s key D m=BH s m.ok m.v D:=by unfold EH;rw[h];rfl
def xn:EE T s w key a=JZ T (rd s) s.ob w key a:=by
 cases a<;>simp only[EE,JZ,zr]
theorem TK{T:Le}{s:St}{i:Ng}(h:RG i=bI):Dp T s i=BH s (eff T (rd s) s.ob i).1 (eff T (rd s) s.ob i).2 i.dst:=by
 unfold Dp eff;cases C:i.guard with
 | some g=>
  have j:∀f l,i.op ≠ .callw f l:=fun f l e=>by simp[RG,C,e,Az,kO]at h
  have J:∀s' w,Nr T s' i.key i.dst w i.op=Pa s' w i.dst (EE T s' w i.key i.op):=by
   intro s' w;unfold Nr;split
   .rename_i f l e;exact absurd e (j f l)
   .rfl
  simp only[Xa];rw[J];have I:EE T { s with ok:=s.ok&&SS (rd s g.1) } (od g.2 (rd s g.1)) i.key i.op=EE T s (od g.2 (rd s g.1)) i.key i.op:=rfl;rw[I,xn];simp only[Pa];cases i.dst<;>simp[BH,Bool.and_assoc]
 | none=>
  simp only[RG,C]at h;simp only[Xa];generalize i.op=a at h;cases a<;>simp only[XY]at h<;>(try(cases h;done))<;>simp only[DF,rh]
  case pick=>rw[Pw AAF]
  case callp=>rw[Pw rfl]
  case pur=>rw[tP,Pw AEb]
  case safe=>rw[Pw nH]
  all_goals
   rw[Pw (AEZ (T:=T) rfl (fun _ _ _ e=>by cases e) (fun _ _ e=>by cases e) (fun _ e=>by cases e) (fun _ _ e=>by cases e))]
def tR{a:AV}:(BH s c a D).ob=s.ob:=by cases D<;>rfl
variable{d:Nat}
def iT{d:Bool}{a:AV}{E:Kc}(C:Cv D=bI)(h2:Cv E=bI)(j:LZ D E=bX):BH (BH s c a D) d b E=BH (BH s d b E) c a D:=by
 have hb:(s.ok&&c&&d)=(s.ok&&d&&c):=iB _ _ _
 cases D<;>simp only[Cv]at C<;>(try(cases C;done))<;>cases E<;>simp only[Cv]at h2<;>(try(cases h2;done))<;>simp only[BH,hb] <;>
  (try(simp only[LZ,beq_eq_false_iff_ne]at j;rw[l' _ _ j]))
variable{r':Src->AV}
def Zi(I:XY a=bI)(R:∀x y z,a ≠ .pick x y z)(U:∀f l,a ≠ .callp f l)(J:∀x,a ≠ .pur x)(C:∀q x,a ≠ .safe q x)(h:∀x,x∈Nh a->r x=r' x):AP r ob d a=AP r' ob d a:=by
 cases a<;>simp only[XY]at I<;>(try(cases I;done))<;>simp only[Nh,BQ]at h<;>simp only[AP]
 case minmax mx xs=>rw[bN h]
 case mkFn f fi ca=>
  rw[bN (l:=fi) fun x j=>h x (bS.2 (.inl j)),bN (l:=ca) fun x j=>h x (bS.2 (.inr j))]
 all_goals first|(exact absurd rfl (R _ _ _))|(exact absurd rfl (U _ _))|(exact absurd rfl (J _))|(exact absurd rfl (C _ _))|simp_all
def PF{x:Src}(h:r x=r' x):Pv r x=Pv r' x:=by cases x<;>simp[Pv,h]
def bF(R:Az a=bI\/kO a=bI)(h:∀x,x∈Nh a->r x=r' x):JZ T r ob w key a=JZ T r' ob w key a:=by
 have j:∀l:List Src,(∀x,x∈l->r x=r' x)->(l.all fun x=>Dc w (r x))=(l.all fun x=>Dc w (r' x)):=by
  intro l J
  induction l with
  |nil=>rfl
  |cons y l ih=>simp only[j0];rw[J y p',ih fun x I=>J x (by simp[I])]
 have C:∀l:List Src,(∀x,x∈l->r x=r' x)->l.map (Pv r)=l.map (Pv r'):=fun l J=>bN fun x I=>PF (J x I)
 have still:Az a=bI->(∀x,x∈BQ a->r x=r' x)->IJ (Az a&&(BQ a).all fun x=>Dc w (r x)) (TW (AP (Pv r) ob key a))=IJ (Az a&&(BQ a).all fun x=>Dc w (r' x)) (TW (AP (Pv r') ob key a)):=by
  intro U hh;rw[j _ hh,Iw U fun x I=>PF (hh x I)]
 cases a
 case pick c x y=>
  simp only[Nh]at h;simp only[JZ];rw[h c p',h x p',h y p',PF (h c p')]
 case call f args=>
  simp only[Nh,BQ]at h;simp only[JZ,BQ];rw[j _ h,C _ h]
 case callv f args=>
  simp only[Nh,BQ]at h;simp only[JZ,BQ];rw[j _ h,C _ fun x I=>h x (j5 _ I),PF (h f p')]
 all_goals
  first
  |(exfalso;rcases R with R|R<;>simp[Az,kO]at R;done)
  |exact still rfl h
def jV{T:Le}{r r':Src->AV}{ob:Cx}{i:Ng}(j:RG i=bI)(h:∀x,x∈iQ i->r x=r' x):eff T r ob i=eff T r' ob i:=by
 unfold iQ at h;unfold RG at j;unfold eff;cases C:i.guard with
 | some g=>
  rw[C]at j h;simp only at j h ⊢;have J:r g.1=r' g.1:=h _ p';have h2:∀w,JZ T r ob w i.key i.op=JZ T r' ob w i.key i.op:=fun w=>bF (by simpa using j) fun x I=>h x (bS.2 (.inr I))
  rw[J,h2]
 | none=>
  rw[C]at j h;simp only[List.nil_append]at j h ⊢;generalize i.op=a at j h;cases a
  case pick c x y=>
   simp only[Nh]at h;simp only[rh];rw[h c p',h x p',h y p']
  case callp f args=>
   simp only[Nh]at h;simp only[rh];rw[bN h]
  case pur x=>
   simp only[Nh]at h;simp only[rh];rw[aE h]
  case safe q x=>
   simp only[Nh]at h;simp only[rh];rw[YH h]
  all_goals
   simp only[rh];rw[Zi j (fun _ _ _ e=>by cases e) (fun _ _ e=>by cases e) (fun _ e=>by cases e) (fun _ _ e=>by cases e) h]
def Vp(d:Nat)(i:Ng):Bool:=i.guard.isNone&&(match i.op with
 |.safe ds _=>ds.any (· == d)
 |_=>bX)
def ZL(i:Ng):Bool:=i.guard.isNone&&(match i.op with
 |.alloc _=>bI
 |_=>bX)
def Uj(d:Nat):∀ob:Cx,FL d (FL d ob)=FL d ob
 |[]=>rfl
 | p::r=>by
  have j:=Uj d r
  by_cases c:p.1/32=d
  .simp only[FL,c,beq_self_eq_true,cond_true,j]
  .have:(p.1/32==d)=bX:=by simpa using c
   simp only[FL,this,cond_false,j]
def bk(d e:Nat):∀ob:Cx,FL d (FL e ob)=FL e (FL d ob)
 |[]=>rfl
 | p::r=>by
  have j:=bk d e r
  by_cases c:p.1/32=d<;>by_cases c2:p.1/32=e
  .simp only[FL,c,c2,beq_self_eq_true,cond_true,j];try(subst c2;subst c;simp only[beq_self_eq_true,cond_true,j])
   try(rw[←c]at c2;simp_all)
  .have h2:(p.1/32==e)=bX:=by simpa using c2
   have C:(p.1/32==d)=bI:=by simpa using c
   simp only[FL,C,h2,cond_true,cond_false,j]
  .have C:(p.1/32==d)=bX:=by simpa using c
   have h2:(p.1/32==e)=bI:=by simpa using c2
   simp only[FL,C,h2,cond_true,cond_false,j]
  .have C:(p.1/32==d)=bX:=by simpa using c
   have h2:(p.1/32==e)=bX:=by simpa using c2
   simp only[FL,C,h2,cond_false,j]
def ja{d k:Nat}{h:Hm}(j:k/32=d):∀ob:Cx,FL d (DM k h ob)=FL d ob
 |[]=>by simp[DM,FL,j]
 | p::r=>by
  have C:=ja (h:=h) j r;simp only[DM,AM,beq_iff_eq,mn];split
  .rename_i e;simp[FL,e,j]
  .split
   .simp[FL,j]
   .simp only[FL,C]
def Xn{d:Nat}:∀{ds:List Nat} (ob:Cx),ds.any (· == d)=bI->NB ds (FL d ob)=NB ds ob
 |[],_,h=>by simp at h
 | e::r,ob,h=>by
  simp only[NB]
  by_cases c:e=d
  .subst c;rw[Uj]
  .have:r.any (· == d)=bI:=by
    simp only[List.any_cons,d',beq_iff_eq]at h;exact h.resolve_left c
   rw[bk,Xn _ this]
def bj{d:Nat}:∀{ob:Cx},SM d ob=bX->FL d ob=ob
 |[],_=>rfl
 | p::r,h=>by
  simp only[SM,Bool.or_eq_false_iff]at h;simp only[FL,h.1,cond_false,bj h.2]
def ABr(s:St)(d:Nat):(clear s d).ob=FL d s.ob:=by
 unfold Go.Proofs.YtegmpdmpgmpiaaaGreatDoor.clear;rw[AM];split
 .rfl
 .rename_i h;rw[bj (by simpa using h)]
def lB(d:Nat):bm d .any = .any:=by simp[bm,AV.keys]
def AAQ(ds:List Nat):Qk ds .any=bX:=by simp[Qk,Mp]
def lA{ds:List Nat}(hd:ds.any (· == d)=bI)(a:AV):(Qk ds a=bI->bm d a=a)/\Qk ds (bm d a)=Qk ds a:=by
 unfold bm;rw[AM]
 by_cases c:a.keys.any (fun k=>k/32==d)=bI
 .have R:Qk ds a=bX:=by
   rw[k3];intro I;rw[h8]at c hd;obtain⟨k,J,e⟩:=c;obtain⟨U,j,C⟩:=hd;simp only[beq_iff_eq]at e C;exact ng I J U j (by rw[e,C])
  rw[if_pos c,AAQ,R];exact⟨fun h=>Bool.noConfusion h,rfl⟩
 .rw[if_neg c];exact⟨fun _=>rfl,rfl⟩
def zt(s:St)(d:Nat)(x:Src):rd (clear s d) x=rd s x\/rd (clear s d) x=bm d (rd s x):=by
 unfold Go.Proofs.YtegmpdmpgmpiaaaGreatDoor.clear;rw[AM];split
 .cases x
  .exact .inr (CA _ (lB d) _ _)
  .exact .inr (CA _ (lB d) _ _)
  .exact .inl rfl
 .exact .inl rfl
def ql{v:AV}(j:bm d v=v)(C:Cv D=bI):clear (BH s c v D) d=BH (clear s d) c v D:=by
 unfold Go.Proofs.YtegmpdmpgmpiaaaGreatDoor.clear;rw[IG,AM,AM];split
 .cases D<;>simp only[BH,me,j]
  cases C
 .rfl
variable{i j:Ng}
def Zr(hi:Vp j.key i=bI)(hj:ZL j=bI)(h1:Cv i.dst=bI)(h2:Cv j.dst=bI)(h3:LZ i.dst j.dst=bX)(h5:∀x,x∈Oh i->Xd j.dst x=bX):
  Dp T (Dp T s i) j=Dp T (Dp T s j) i:=by
 obtain⟨D,key,gd,op⟩:=i;obtain⟨E,d,bb,ab⟩:=j;simp only[Vp,hL,iI]at hi;simp only[ZL,hL,iI]at hj;obtain⟨rfl,C⟩:=hi;obtain⟨rfl,R⟩:=hj;cases op<;>(try(cases C;done))
 cases ab<;>(try(cases R;done))
 rename_i ds a z;simp only at C h1 h2 h3
 have hI:∀s:St,Dp T s ⟨D,key,fA,.safe ds a⟩=BH s (Mn T (rd s) s.ob key ds a).ok (Mn T (rd s) s.ob key ds a).v D:=fun s=>by
  simp only[Dp,Xa,DF];rw[Pw nH]
 have hJ:∀s:St,Dp T s ⟨E,d,fA,.alloc z⟩=BH { clear s d with ob:=DM (Bn d) ⟨z.cells.length,[z]⟩ (clear s d).ob } (decide (1<=z.cells.length)&&z.atoms) (.ref (Bn d) 0 0) E:=fun s=>rfl
 have aj:Bn d/32=d:=by simp[Bn]
 have hM:Mn T (rd (Dp T s ⟨E,d,fA,.alloc z⟩)) (Dp T s ⟨E,d,fA,.alloc z⟩).ob key ds a=Mn T (rd s) s.ob key ds a:=by
  have ae:NB ds (Dp T s ⟨E,d,fA,.alloc z⟩).ob=NB ds s.ob:=by
   rw[hJ,IG];show NB ds (DM (Bn d) _ (clear s d).ob)=_;rw[←Xn _ C,ja aj,ABr,Uj,Xn _ C]
  have J:∀x,x∈Eu a->rd (Dp T s ⟨E,d,fA,.alloc z⟩) x=rd s x\/rd (Dp T s ⟨E,d,fA,.alloc z⟩) x=bm d (rd s x):=fun x I=>by
   rw[hJ,Qh h2 (h5 x (by simpa[Oh,CT]using I))];have e:rd ({ clear s d with ob:=DM (Bn d) ⟨z.cells.length,[z]⟩ (clear s d).ob }:St) x=rd (clear s d) x:=by cases x<;>rfl
   rw[e];exact zt s d x
  unfold Mn
  have U:((Eu a).all fun x=>Qk ds (rd (Dp T s ⟨E,d,fA,.alloc z⟩) x))=(Eu a).all fun x=>Qk ds (rd s x):=by
   have:∀l:List Src,(∀x,x∈l->x∈Eu a)->(l.all fun x=>Qk ds (rd (Dp T s ⟨E,d,fA,.alloc z⟩) x))=l.all fun x=>Qk ds (rd s x):=by
    intro l hl
    induction l with
    |nil=>rfl
    | cons y l ih=>
     simp only[j0];rw[ih fun x I=>hl x (by simp[I])]
     congr 1
     rcases J y (hl y p')with e|e
     .rw[e]
     .rw[e,(lA C _).2]
   exact this _ fun x I=>I
  rw[U,ae]
  by_cases hs:((Eu a).all fun x=>Qk ds (rd s x))=bI
  .rw[YI (r:=rd (Dp T s ⟨E,d,fA,.alloc z⟩)) (r':=rd s) fun x I=>by
    rcases J x I with e|e
    .exact e
    .rw[e];exact(lA C _).1 (bR.1 hs x I)]
  .have ad:((Eu a).all fun x=>Qk ds (rd s x))=bX:=by simpa using hs
   rw[ad];rfl
 have hv:bm d (Mn T (rd s) s.ob key ds a).v=(Mn T (rd s) s.ob key ds a).v:=by
  unfold Mn Zs;rw[AM];split
  .rename_i hc;simp only[hL]at hc;exact(lA C _).1 hc.2.2
  .exact lB d
 rw[hI (Dp T s ⟨E,d,fA,.alloc z⟩),hM,hI s,hJ,hJ,ql hv h1];have e:∀(b:Bool) (v:AV) (ob:Cx),({ BH (clear s d) b v D with ob:=ob }:St)=BH { clear s d with ob:=ob } b v D:=fun b v ob=>XK ob
 rw[IG,e];exact(iT h2 h1 (by rw[UJ];exact h3)).symm
def com(i j:Ng):Bool:=AIx i j&&(((RG i&&RG j)||(kP i||kP j))||((Vp j.key i&&ZL j)||(Vp i.key j&&ZL i)))
def ALd(h:com i j=bI):Dp T (Dp T s i) j=Dp T (Dp T s j) i:=by
 simp only[com,AIx,hL,d',cA,bR]at h;obtain⟨⟨U,h2,h3,J,I⟩,hh⟩:=h
 have R:∀(k:Ng) x,x∈iQ k->x∈Oh k:=fun k x C=>by
  unfold iQ at C;unfold Oh;rcases bS.1 C with C|C
  .exact List.mem_append_left _ C
  .refine List.mem_append_right _ ?_;generalize k.op=a at C;cases a<;>first|exact C|(simp[Nh,BQ]at C)
 rcases hh with (⟨h6,h7⟩|hi|hj)|⟨hi,hj⟩|⟨hj,hi⟩
 rotate_left
 .exact(ox hi h2 U h3 I J).symm
 .refine ox hj U h2 ?_ J I;rw[UJ];exact h3
 .exact Zr hi hj U h2 h3 I
 .exact(Zr hj hi h2 U (by rw[UJ];exact h3) J).symm
 have h4:∀x,x∈iQ j->Xd i.dst x=false:=fun x C=>J x (R j x C)
 have h5:∀x,x∈iQ i->Xd j.dst x=false:=fun x C=>I x (R i x C)
 rw[TK h6,TK (s:=s) h7,TK h7,TK h6];rw[tR,tR,jV (r:=rd (BH s _ _ i.dst)) (r':=rd s) h7 fun x C=>Qh U (h4 x C),jV (r:=rd (BH s _ _ j.dst)) (r':=rd s) h6 fun x C=>Qh h2 (h5 x C)];exact iT U h2 h3
open Go Go.RowKit
def yu(dep:Nat->Nat->Bool)(l:List Nat):Prop:=l.Pairwise fun a b=>dep b a=bX
def um(dep:Nat->Nat->Bool)(j:Nat):List Nat->List Nat->List Nat
 |acc,[]=>acc
 |acc,i::r=>um dep j (bif dep j i||acc.any (fun k=>dep k i)then i::acc else acc) r
def rH(dep cm:Nat->Nat->Bool)(rem:List Nat)(j:Nat):Bool :=
 rem.all fun i=>i==j||((um dep j [] rem).contains i||cm j i)
def ready(dep:Nat->Nat->Bool)(rem:List Nat):List Nat:=rem.filter fun j=>rem.all fun i=>!dep i j
def RF(dep cm:Nat->Nat->Bool):Nat->List Nat->List (List Nat)
 |0,_=>[[]]
 | n+1,rem=>
  match rem with
  |[]=>[[]]
  | _=>match(ready dep rem).find? (rH dep cm rem)with
   |some j=>(RF dep cm n (rem.erase j)).map (j::·)
   |none=>(ready dep rem).flatMap fun j=>(RF dep cm n (rem.erase j)).map (j::·)
section
variable {dep cm:Nat->Nat->Bool}
def jW{j:Nat}{p q:List Nat}(U:yu dep (p++j::q)):∀(r acc:List Nat),(∀i,i∈acc->i ∉ p/\i∈p++j::q)->(∀i,i∈r->i∈p++j::q)->∀i,i∈um dep j acc r->i ∉ p
 |[],acc,R,_,i,hi=>(R i hi).1
 | a::r,acc,R,hr,i,hi=>by
  simp only[um]at hi;refine jW U r _ (fun k I=>?_) (fun k I=>hr k (by simp[I])) i hi;cases J:dep j a||acc.any (fun k=>dep k a)with
  |false=>rw[J]at I;exact R k I
  | true=>
   rw[J]at I;simp only[cond_true,eL]at I;rcases I with rfl|I
   .refine⟨fun hp=>?_,hr k p'⟩;unfold yu at U;rw[List.pairwise_append]at U;have C:=U.2.2 k hp;simp only[d',h8]at J;rcases J with J|⟨m,hm,J⟩
    .have:=C j p';rw[J]at this;cases this
    .obtain⟨ab,ad⟩:=R m hm
     have aa:m∈j::q:=by
      rcases bS.1 ad with h|h
      .exact absurd h ab
      .exact h
     have:=C m aa;rw[J]at this;cases this
   .exact R k I
def pF{σ:Type}{f:Nat->σ->σ}(bh:∀i j s,cm i j=bI->f j (f i s)=f i (f j s))(ay:∀i,dep i i=bX):
  ∀(n:Nat) (rem:List Nat),rem.length<=n->rem.Nodup->∀π,π.Perm rem->yu dep π->∃ρ∈RF dep cm n rem,∀s,π.foldl (fun s i=>f i s) s=ρ.foldl (fun s i=>f i s) s:=by
 intro n
 induction n with
 | zero=>
  intro rem hn _ π I _;have:rem=[]:=ke.1 n';subst this;have:=I.eq_nil;subst this;exact⟨[],by simp[RF],fun s=>rfl⟩
 | succ n ih=>
  intro rem hn aj π I hl;cases rem with
  | nil=>
   have:=I.eq_nil;subst this;exact⟨[],by simp[RF],fun s=>rfl⟩
  | cons r0 rr=>
   have ad:π.Nodup:=I.nodup_iff.2 aj;simp only[RF];cases U:(ready dep (r0::rr)).find? (rH dep cm (r0::rr))with
   | some j=>
    have hj:j∈r0::rr:=by
     have:=List.mem_of_find?_eq_some U;exact(j3.1 this).1
    have R:=List.find?_some U;obtain⟨p,q,rfl⟩:=List.append_of_mem (I.mem_iff.2 hj)
    have bb:j ∉ p:=by
     intro c;rw[List.nodup_append]at ad;exact ad.2.2 j c j p' rfl
    have az:∀i,i∈p->cm j i=bI:=by
     intro i hi;simp only[rH,bR]at R;have be:i∈r0::rr:=I.mem_iff.1 (by simp[hi]);have:=R i be;simp only[d',beq_iff_eq,l3,mn]at this;rcases this with e|e|e
     .exact absurd hi (e▸bb)
     .exact absurd hi (jW hl (r0::rr) [] (fun k hk=>by simp at hk) (fun k hk=>I.mem_iff.2 hk) i e)
     .exact e
    have ao:∀(p:List Nat),(∀i,i∈p->cm j i=bI)->∀s,f j (p.foldl (fun s i=>f i s) s)=p.foldl (fun s i=>f i s) (f j s):=by
     intro p
     induction p with
     |nil=>intro _ s;rfl
     | cons a p a6=>
      intro hc s;simp only[hX];rw[a6 (fun i hi=>hc i (by simp[hi])),bh j a s (hc a p')]
    have C:(p++q).Perm ((r0::rr).erase j):=by
     have h1:(p++j::q).Perm (j::(p++q)):=List.perm_middle;have h2:=(h1.symm.trans I).erase j;simpa using h2
    have J:yu dep (p++q):=by
     unfold yu at hl ⊢;exact hl.sublist (List.Sublist.append (List.Sublist.refl p) (List.sublist_cons_self j q))
    obtain⟨ρ,hρ,he⟩:=ih _ (by rw[iZ hj];simp at hn ⊢;omega) (aj.erase j) (p++q) C J;refine⟨j::ρ,fB.2 ⟨ρ,hρ,rfl⟩,fun s=>?_⟩;rw[lg,hX,ao p az,hX,←he,lg]
   | none=>
    cases π with
    |nil=>have:=I.symm.eq_nil;cases this
    | cons j π'=>
     have hj:j∈r0::rr:=I.mem_iff.1 p'
     have ab:j∈ready dep (r0::rr):=by
      refine j3.2 ⟨hj,bR.2 fun i hi=>?_⟩;have au:i∈j::π':=I.mem_iff.2 hi;rcases eL.1 au with e|au
      .rw[e,ay];rfl
      .unfold yu at hl;rw[iN]at hl;rw[hl.1 i au];rfl
     have C:π'.Perm ((r0::rr).erase j):=by
      have h2:=I.erase j;simpa using h2
     have J:yu dep π':=by unfold yu at hl ⊢;exact(iN.1 hl).2
     obtain⟨ρ,hρ,he⟩:=ih _ (by rw[iZ hj];simp at hn ⊢;omega) (aj.erase j) π' C J;refine⟨j::ρ,k4.2 ⟨j,ab,fB.2 ⟨ρ,hρ,rfl⟩⟩,fun s=>?_⟩;rw[hX,hX,he]
end
open Go Go.RowKit
def ky:Ng:=⟨.no,0,fA,.mov (.c .any)⟩
def PQ(ops:Array j6)(i j:Nat):Bool :=
 match ops[j]? with
 |some o=>o.after.any fun e=>Region.binds .any e&&e.on==i
 |none=>bX
def cmOf(is:List Ng)(i j:Nat):Bool:=com (is.getD i ky) (is.getD j ky)
def AKQ(vm:List Nat)(ops:Array j6):List Nat:=((ops.toList.filterMap (·.dst)).filter fun d=>!vm.contains d).eraseDups
def jd(P:eo)(n:Nat)(ops:Array j6)(vm ss:List Nat)(is:List Ng)(j:Nat):Bool :=
 match ops[j]? with
 |some o=>o.after.all (fun e=>!Region.binds .any e||decide (e.on<j))&&lC P n ops vm ss o (is.getD j ky)==cB ss
 |none=>bX
def lD(P:eo)(n:Nat)(ops:Array j6)(vm ss:List Nat)(k:Nat)(is:List Ng)(j:List (List Nat)):Bool :=
 P.follows .mixedOrders&&(ss.length==k&&(ss.all (fun t=>decide (t<n))&&(is.length==ops.size&&((fu ops.size).all (jd P n ops vm ss is) &&
  (RF (PQ ops) (cmOf is) ops.size (fu ops.size)).all fun ρ=>ρ==fu ops.size||j.contains ρ))))
def fT(T:Le)(is:List Ng)(s:St)(l:List Nat):St:=l.foldl (fun s i=>Dp T s (is.getD i ky)) s
def XI{T:Le}{is:List Ng}:∀(l:List Nat) (s:St),Gj T (XN is l) s=fT T is s l
 |[],s=>rfl
 |i::l,s=>XI l (Dp T s (is.getD i ky))
def kD(is:List Ng):XN is (fu is.length)=is:=by
 unfold XN;apply List.ext_getElem
 .simp
 .intro i j h2;simp[kf,geE h2]
def tN{T:Le}{is:List Ng}:∀(l:List Nat) {s:St},(fT T is s l).ok=bI->s.ok=bI
 |[],_,h=>h
 |i::l,s,h=>pN (tN l (s:=Dp T s (is.getD i ky)) h)
def cL{T:Le}{is:List Ng}{s r:St}:∀{alts:List (List Nat)},So T is s r alts=bI->∀l,l∈alts->Gj T (XN is l) s=r
 |[],_,l,h=>by simp at h
 | a::alts,h,l,j=>by
  simp only[So,hL,mn]at h;rcases eL.1 j with e|j
  .subst e;exact h.1
  .exact cL h.2 l j
section
variable {F Iow:Nat->Prop}{w0:cS}{g0:Gh}{o0:Cx}{g:Gh}{w w':cS}{tmps:Array Value}{ds:List hV}{vm ss ss':List Nat}{s:St}{P:eo}{T:Le}
 {Q:m'->Act->cS->Prop} {ops:Array j6} {n:Nat}
def FX.grow(h:FX F Iow w0 g0 o0 g w tmps vm ss s)(j:AD C' w w'):FX F Iow w0 g0 o0 g w' tmps vm ss s :=
 FX.mk' (w:=w) (h.toFR.grow j) h.same (j.mono fun _ _ c=>c.elim) h.hio h.fio h.par
def FX.slots(h:FX F Iow w0 g0 o0 g w tmps vm [] s){k:Nat}(C:ss.length=k)(I:∀t,t∈ss->t<tmps.size):FX F Iow w0 g0 o0 g w tmps vm ss (j7 k s):=by
 refine⟨⟨h.home,h.inj,h.nF,h.fb,h.vl,by simp[Go.Proofs.YtegmpdmpgmpiaaaGreatDoor.slots,C],h.vs,fun i hi=>?_,fun t j=>?_,h.tab⟩,h.same,h.hio,h.fio,h.par⟩
 .simp only[Go.Proofs.YtegmpdmpgmpiaaaGreatDoor.slots];have:(List.replicate k AV.any).getD i .any = .any:=by rw[kf,List.getElem?_replicate];split<;>rfl
  rw[this];exact SR.any
 .rcases j with j|j
  .exact h.fit t (.inl j)
  .exact I t j
def ADZ(hT:Ls P T)(b4:RR vm){is:List Ng}(ae:∀j,j<ops.size->jd P n ops vm ss is j=bI){r:St}(bh:r.ok=bI)
  (hQ:∀C w' g',C.size=n->FX F Iow w0 g0 o0 g' w' C vm ss r->Q .normal ⟨C,ds⟩ w') :
  ∀ (fuel:Nat) (rem:List Nat) (listed:Array Bool) {s:St} {g:Gh} {w:cS} {tmps:Array Value},rem.Pairwise (· < ·)->(∀i,i∈rem->i<ops.size)->listed.size=ops.size->(∀i,i<ops.size->(listed.getD i bI=bI ↔ i ∉ rem))->rem.length<=fuel ->
   (∀π,π.Perm rem->yu (PQ ops) π->fT T is s π=r)->FX F Iow w0 g0 o0 g w tmps vm ss s->tmps.size=n->wpAny P .any ops Q fuel listed ⟨tmps,ds⟩ w:=by
 have bz:∀i j,PQ ops i j=bI->i<j:=by
  intro i j hd;unfold PQ at hd;split at hd
  .rename_i o ho
   have hj:j<ops.size:=by
    rcases hO j ops.size with h' |h'
    .exact h'
    .rw[kn h']at ho;cases ho
   have hc:=ae j hj;unfold jd at hc;rw[ho]at hc;simp only[hL,hN,jn]at hc hd;obtain⟨x,hx,hb,he⟩:=hd;have:=hc.1 x hx;simp only[d',cA,mn,beq_iff_eq]at this he;rcases this with e|e
   .rw[hb]at e;cases e
   .omega
  .cases hd
 have a7:∀(l:List Nat),l.Pairwise (· < ·)->yu (PQ ops) l:=fun l R=>R.imp fun{a b} c6=>by
  cases hd:PQ ops b a with
  |false=>rfl
  |true=>have:=bz b a hd;omega
 have aa:∀(rem:List Nat) (listed:Array Bool),(∀i,i∈rem->i<ops.size)->listed.size=ops.size->(∀i,i<ops.size->(listed.getD i bI=bI ↔ i ∉ rem))->∀i,i∈k8 .any ops listed->i∈rem/\∀k,k∈rem->PQ ops k i=bX:=by
  intro rem listed hb J R i hi;obtain⟨h1,h2⟩:=j3.1 hi;have U:i<ops.size:=by simpa using h1
  simp only[hL,cA,cI U,l8,l4,hN]at h2;obtain⟨h3,h4⟩:=h2;refine⟨?_,fun k hk=>?_⟩
  .by_cases hm:i∈rem
   .exact hm
   .have:=(R i U).2 hm;rw[h3]at this;cases this
  .cases hd:PQ ops k i with
   |false=>rfl
   | true=>
    unfold PQ at hd;rw[cI U]at hd;simp only[jn,hL,beq_iff_eq]at hd;obtain⟨x,hx,b9,he⟩:=hd;have h5:=h4 x hx;rw[b9,he]at h5;simp only[k9,kb]at h5;have b7:=hb k hk
    have h6:listed.getD k bI=bI:=by
     rw[←h5,agD,agD,cI n'];rfl
    exact absurd hk ((R k b7).1 h6)
 have a1:∀(rem:List Nat) (listed:Array Bool),rem.Pairwise (· < ·)->(∀i,i∈rem->i<ops.size)->listed.size=ops.size->(∀i,i<ops.size->(listed.getD i bI=bI ↔ i ∉ rem))->k8 .any ops listed=[]->rem=[]:=by
  intro rem listed hs hb J R h0;cases rem with
  |nil=>rfl
  | cons a r=>
   exfalso;have aj:=hb a p';have hc:=ae a aj;unfold jd at hc;rw[cI aj]at hc;simp only[hL,hN]at hc
   have ay:a∈k8 .any ops listed:=by
    refine j3.2 ⟨by simpa using aj,?_⟩;simp only[hL,cA,cI aj,l8,l4,hN];refine⟨?_,fun x hx=>?_⟩
    .cases b6:listed.getD a bI with
     |false=>rfl
     |true=>exact absurd (List.mem_cons_self) ((R a aj).1 b6)
    .have h5:=hc.1 x hx;simp only[d',cA,mn]at h5 ⊢;refine h5.imp id fun cn=>?_
     have hk:(ops[a].after[x]).on<ops.size:=n'
     have b3:(ops[a].after[x]).on ∉ a::r:=by
      intro hm;rcases eL.1 hm with e|hm
      .omega
      .have:=(iN.1 hs).1 _ hm;omega
     have h6:=(R _ hk).2 b3;rw[←h6,agD,agD,cI n'];rfl
   rw[h0]at ay;simp at ay
 intro fuel
 induction fuel with
 | zero=>
  intro rem listed s g w tmps hs hb J R hf H ax hn;have a6:rem=[]:=ke.1 n';subst a6;have e:=H [] (j1 _) List.Pairwise.nil;have e':s=r:=e;subst e';refine⟨?_,hQ _ _ _ hn ax⟩;rw[k5];intro i hi;exact absurd (aa [] listed hb J R i hi).1 p'
 | succ fuel ih=>
  intro rem listed s g w tmps hs hb J R hf H ax hn;refine⟨fun h0=>?_,fun i hi=>?_⟩
  .have a6:=a1 rem listed hs hb J R h0;subst a6;have e:=H [] (j1 _) List.Pairwise.nil;have e':s=r:=e;subst e';exact hQ _ _ _ hn ax
  .obtain⟨a8,b8⟩:=aa rem listed hb J R i hi;have U:=hb i a8;have hc:=ae i U;unfold jd at hc;rw[cI U]at hc;simp only[hL,beq_iff_eq]at hc;have au:rem.Nodup:=hs.imp fun{a b} h=>Nat.ne_of_lt h
   have bs:(rem.erase i).Pairwise (· < ·):=hs.sublist List.erase_sublist;have az:∀π,π.Perm (rem.erase i)->yu (PQ ops) π->yu (PQ ops) (i::π):=fun π hp R=>iN.2 ⟨fun k hk=>b8 k (kR (hp.mem_iff.1 hk)),R⟩
   have ad:∀π,π.Perm (rem.erase i)->(i::π).Perm rem:=fun π hp=>(hp.cons i).trans (List.perm_cons_erase a8).symm
   have b1:(Dp T s (is.getD i ky)).ok=bI:=by
    have e:=H (i::rem.erase i) (ad _ (j1 _)) (az _ (j1 _) (a7 _ bs));refine tN (T:=T) (is:=is) (rem.erase i) ?_;have e2:fT T is (Dp T s (is.getD i ky)) (rem.erase i)=r:=e;rw[e2];exact bh
   have I:=Vu (ds:=ds) (Q:=Q) (K:=wpAny P .any ops Q fuel (listed.setIfInBounds i bI)) hT ax b4 hn hc.2 b1 fun C w' g' b5 bo=>?_
   .unfold wpOp;rw[cI U];simp only;split
    .rename_i hw;rw[if_pos hw]at I;exact .inl I
    .rename_i hw;rw[if_neg hw]at I;exact I
   .refine ih (rem.erase i) _ bs (fun k hk=>hb k (kR hk)) (by simpa using J) (fun k hk=>?_) (by rw[iZ a8];omega) (fun π hp R=>H (i::π) (ad π hp) (az π hp R)) bo b5;rw[au.mem_erase_iff]
    by_cases e:i=k
    .subst e;simp[agD,J,U]
    .rw[agD,Array.getElem?_setIfInBounds_ne e,←agD,R k hk];simp[Ne.symm e]
theorem ADa(hT:Ls P T)(ao:RR vm){k id:Nat}{is:List Ng}{I:List (List Nat)}(U:lD P n ops vm ss k is I=bI)(h:FX F Iow w0 g0 o0 g w tmps vm [] s)(hn:tmps.size=n)(ae:(WP T k is I s).ok=bI)
  (hQ:∀C w' g',C.size=n->FX F Iow w0 g0 o0 g' w' C vm ss (WP T k is I s)->Q .normal ⟨C,ds⟩ w'):(Code.region id ops bI).wp P Q ⟨tmps,ds⟩ w:=by
 simp only[lD,hL,beq_iff_eq,bR,mn,d',l3,List.mem_range]at U;obtain⟨hm,hk,ad,ay,ab,hex⟩:=U
 have J:(Gj T is (j7 k s)).ok=bI/\So T is (j7 k s) (Gj T is (j7 k s)) I=bI:=by
  simpa[WP,vu]using ae
 have a1:({ w with drawn:=w.drawn+1 }:cS)=w.drew:=rfl;have az:=(h.slots (ss:=ss) hk (fun t ht=>by rw[hn];exact ad t ht)).grow (w':={ w with drawn:=w.drawn+1 }) (by rw[a1];exact AD.drew _ _)
 have R:fT T is (j7 k s) (fu ops.size)=Gj T is (j7 k s):=by
  rw[←XI,←ay,kD]
 refine wp_region_any hm (ADZ hT ao (is:=is) (r:=Gj T is (j7 k s)) (fun j hj=>ab j hj) J.1 (fun C w' g' au hf=>hQ C w' g' au ?_) ops.size (fu ops.size) _ List.pairwise_lt_range (fun i hi=>by simpa using hi) p' (fun i hi=>?_) p' (fun π hp hl=>?_) az hn)
 .exact hf.setOk _
 .simp[agD,hi]
 .have aa:∀i,PQ ops i i=bX:=by
   intro i;cases hd:PQ ops i i with
   |false=>rfl
   | true=>
    unfold PQ at hd;split at hd
    .rename_i o ho
     have hj:i<ops.size:=by
      rcases hO i ops.size with h' |h'
      .exact h'
      .rw[kn h']at ho;cases ho
     have U:=ab i hj;unfold jd at U;rw[ho]at U;simp only[hL,hN,jn]at U hd;obtain⟨x,hx,hb,he⟩:=hd;have:=U.1 x hx;simp only[d',cA,mn,beq_iff_eq]at this he;rcases this with e|e
     .rw[hb]at e;cases e
     .omega
    .cases hd
  obtain⟨ρ,hρ,he⟩:=pF (f:=fun i s=>Dp T s (is.getD i ky)) (fun i j s a6=>ALd a6) aa ops.size (fu ops.size) p' List.nodup_range π hp hl;have h1:fT T is (j7 k s) π=fT T is (j7 k s) ρ:=he _;rw[h1];rcases hex ρ hρ with e|e
  .rw[e];exact R
  .rw[←XI];exact cL J.2 ρ e
end
def rp(P:eo)(n:Nat)(vm:List Nat):Code->IR->Bool
 |.skip,.skip=>bI
 |.label _,.skip=>bI
 |.region _ ops bX,.region bX is=>(PR P n ops vm [] ops.toList is).isSome
 | .seq (.region _ ops bX) (.cond c a b),.test bX is I a' C=>(match PR P n ops vm [] ops.toList is with
  |some ss=>Bb vm ss c I
  |none=>bX)&&(rp P n vm a a'&&rp P n vm b C)
 |.region _ ops bI,.anyo k is alts .skip=>lD P n ops vm (AKQ vm ops) k is alts
 |.seq (.region _ ops bI) (.cond c a b),.anyo k is alts (.cond I a' C)=>lD P n ops vm (AKQ vm ops) k is alts&&(Bb vm (AKQ vm ops) c I&&(rp P n vm a a'&&rp P n vm b C))
 |.seq a b,.seq a' C=>rp P n vm a a'&&rp P n vm b C
 |.cond c a b,.cond I a' C=>Bb vm [] c I&&(rp P n vm a a'&&rp P n vm b C)
 |.block i a,.block j a'=>i==j&&rp P n vm a a'
 |.loop a,.loop keep out rt a'=>keep.length==vm.length&&(out.length==vm.length&&(rt.length==vm.length&&rp P n vm a a'))
 |.exit i,.exit j=>i==j
 |.ret,.ret=>bI
 |c,.mask m a'=>m.length==vm.length&&rp P n vm c a'
 |_,_=>bX
def Wu:Ex->m'
 |.norm=>.normal
 |.exit id=>.exit id
 |.ret=>.ret
variable{s:St}
def ABw:(pS s).ok=s.ok:=by
 unfold pS;cases s.ob<;>rfl
variable{m:List Bool}
def Kj:(l7 m s).ok=s.ok:=by
 unfold l7;rw[ABw];rfl
def XU{r:FM}(h:(iW m r).2.ok=bI):r.2.ok=bI:=by
 obtain⟨e,s⟩:=r;cases e
 .simpa only[iW,Kj]using h
 .exact h
 .exact h
def Vo{f:St->FM}{keep ot rt:List Bool}(j:∀s,(f s).2.ok=bI->s.ok=bI):∀n s,(Og f keep ot rt n s).2.ok=bI->s.ok=bI
 |0,s,h=>by simp[Og,fail]at h
 | n+1,s,h=>by
  simp only[Og]at h;have I:=Vo (keep:=keep) (ot:=ot) (rt:=rt) j n;revert h;have h2:=j s;generalize f s=r at h2;intro h;obtain⟨e,s'⟩:=r;cases e
  .simp only[MV,MM]at h;have C:=I _ h;rw[Kj]at C;exact h2 C
  .simp only[MV,MM,Kj]at h;exact h2 h
  .simp only[MV,MM,Kj]at h;exact h2 h
def vr{T:Le}{k:Nat}{is:List Ng}{j:List (List Nat)}{s:St}(h:(WP T k is j s).ok=bI):(Gj T is (j7 k s)).ok=bI/\So T is (j7 k s) (Gj T is (j7 k s)) j=bI:=by
 simpa[WP,vu]using h
def Ej{T:Le}{L:Nat}:∀(J:IR) {s:St},(CH T L J s).2.ok=bI->s.ok=bI
 |.skip,_,h=>h
 |.region _ is,s,h=>OL is (s:=s) h
 | .test _ is c a b,s,h=>by
  simp only[CH,Uy]at h;refine OL (T:=T) is (s:=s) ?_;cases I:rd (Gj T is s) c<;>rw[I]at h<;>simp only[Om,fail]at h<;>(try(cases h;done))
  split at h
  .have j:=Ej a h;exact j
  .have j:=Ej b h;exact j
 | .anyo k is alts .skip,s,h=>by
  simp only[CH]at h;have j:=OL (T:=T) is (s:=j7 k s) (vr (s:=s) h).1;exact j
 | .anyo k is alts (.cond c a b),s,h=>by
  simp only[CH,Uy]at h
  have h2:(WP T k is alts s).ok=bI:=by
   cases I:rd (WP T k is alts s) c<;>rw[I]at h<;>simp only[Om,fail]at h<;>(try(cases h;done))
   split at h
   .have j:=Ej a h;exact j
   .have j:=Ej b h;exact j
  have j:=OL (T:=T) is (s:=j7 k s) (vr h2).1;exact j
 |.anyo k is alts (.region _ _),s,h=>by simp[CH,fail]at h
 |.anyo k is alts (.test _ _ _ _ _),s,h=>by simp[CH,fail]at h
 |.anyo k is alts (.anyo _ _ _ _),s,h=>by simp[CH,fail]at h
 |.anyo k is alts (.seq _ _),s,h=>by simp[CH,fail]at h
 |.anyo k is alts (.block _ _),s,h=>by simp[CH,fail]at h
 |.anyo k is alts (.loop _ _ _ _),s,h=>by simp[CH,fail]at h
 |.anyo k is alts (.mask _ _),s,h=>by simp[CH,fail]at h
 |.anyo k is alts (.exit _),s,h=>by simp[CH,fail]at h
 |.anyo k is alts .ret,s,h=>by simp[CH,fail]at h
 | .seq a b,s,h=>by
  simp only[CH]at h;have C:=@Ej T L a s;revert h C;generalize CH T L a s=r;intro h C;obtain⟨e,s'⟩:=r;cases e
  .have j:=Ej b h;exact C j
  .exact C h
  .exact C h
 | .cond c a b,s,h=>by
  simp only[CH]at h;cases I:rd s c<;>rw[I]at h<;>simp only[Om,fail]at h<;>(try(cases h;done))
  split at h
  .have j:=Ej a h;exact j
  .have j:=Ej b h;exact j
 | .block id a,s,h=>by
  simp only[CH]at h;have C:=@Ej T L a s;revert h C;generalize CH T L a s=r;intro h C;obtain⟨e,s'⟩:=r;cases e
  .exact C h
  .refine C ?_;simp only[YP]at h;rw[AM]at h;split at h<;>exact h
  .exact C h
 | .loop keep out rt a,s,h=>by
  simp only[CH]at h;have:=Vo (f:=CH T L a) (keep:=keep) (fun s h=>Ej a h) L (l7 keep s) h
  rwa [Kj]at this
 | .mask m a,s,h=>by
  simp only[CH]at h;exact Ej a (XU h)
 |.exit _,_,h=>h
 |.ret,_,h=>h
def UV:∀(m:List Bool) (tm:List AV),m.length=tm.length->(KU m tm).length=tm.length
 |[],[],_=>rfl
 |[],_::_,h=>by simp at h
 |_::_,[],h=>by simp at h
 |b::m,a::tm,h=>by cases b<;>simp[KU,UV m tm (by simpa using h)]
def aY:∀(m:List Bool) (tm:List AV) (i:Nat),(KU m tm).getD i .any = .any\/(KU m tm).getD i .any=tm.getD i .any
 |[],_,i=>.inl (by simp[KU])
 |_::_,[],i=>.inl (by simp[KU])
 |b::m,a::tm,0=>by cases b<;>simp[KU]
 | b::m,a::tm,i+1=>by
  have:=aY m tm i;cases b<;>simpa[KU]using this
def Qx(j:List AV)(k:Nat):∀ob:Cx,AK k (SI j ob)=if j.any (fun a=>a.names k)=bI then AK k ob else fA
 |[]=>by simp[SI,AK]
 | p::r=>by
  have C:=Qx j k r;simp only[SI,AM]
  by_cases h:j.any (fun a=>a.names p.1)=bI
  .rw[if_pos h];simp only[AK,AM,beq_iff_eq]
   by_cases e:p.1=k
   .subst e;simp[h]
   .simp only[if_neg e,C]
  .rw[if_neg h,C];simp only[AK,AM,beq_iff_eq]
   by_cases e:p.1=k
   .subst e;simp[h]
   .simp only[if_neg e]
variable{p:Nat->Prop}
def AAn:∀m,p m->∃m,p m/\∀k,p k->m<=k:=by
 intro m
 induction m using Nat.strongRecOn with
 | _ m R=>
  intro h
  by_cases J:∃k,k<m/\p k
  .obtain⟨k,U,j⟩:=J;exact R k U j
  .refine⟨m,h,fun k j=>?_⟩;rcases hO k m with C|I
   .exact absurd ⟨k,C,j⟩ J
   .exact I
def Qp (p:Nat->Prop):Nat:=Classical.epsilon fun m=>p m/\∀k,p k->m<=k
def OB(h:∃m,p m):p (Qp p)/\∀k,p k->Qp p<=k:=by
 obtain⟨m,hm⟩:=h;exact Classical.epsilon_spec (AAn m hm)
section
variable {F Iow:Nat->Prop}{w0:cS}{g0:Gh}{o0:Cx}{g:Gh}{w w':cS}{tmps:Array Value}{ds:List hV}{vm ss ss':List Nat}{s:St}{P:eo}{T:Le}
 {Q:m'->Act->cS->Prop} {ops:Array j6} {n:Nat}
def FX.drop(h:FX F Iow w0 g0 o0 g w tmps vm ss s):FX F Iow w0 g0 o0 g w tmps vm [] (drop s) :=
 ⟨⟨h.home,h.inj,h.nF,h.fb,h.vl,rfl,h.vs,fun i hi=>by simp at hi,fun t j=>h.fit t (by rcases j with j|j;exact .inl j;simp at j),h.tab⟩,h.same,h.hio,h.fio,h.par⟩
def FX.keepB(h:FX F Iow w0 g0 o0 g w tmps vm [] s){m:List Bool}(hm:m.length=vm.length):FX F Iow w0 g0 o0 g w tmps vm [] (keepB m s):=by
 have I:∀k j,AK k (Go.Proofs.YtegmpdmpgmpiaaaGreatDoor.keepB m s).ob=cB j->AK k s.ob=cB j:=by
  intro k j J;simp only[Go.Proofs.YtegmpdmpgmpiaaaGreatDoor.keepB,Qx]at J;split at J
  .exact J
  .cases J
 have C:∀k,Lb (Go.Proofs.YtegmpdmpgmpiaaaGreatDoor.keepB m s).ob k->Lb s.ob k:=fun k ⟨j,J⟩=>⟨j,I k j J⟩
 have hlen:m.length=s.vs.length:=by rw[hm,h.vl]
 refine⟨⟨fun k j J=>(h.home k j (I k j J)).mono (dU _ _) (fun _=>rfl) fun b _ c=>Jc C c,fun k k' a b=>h.inj k k' ⟨C k a.1,a.2⟩ ⟨C k' b.1,b.2⟩,fun k a=>h.nF k ⟨C k a.1,a.2⟩,h.fb,
  by simp[Go.Proofs.YtegmpdmpgmpiaaaGreatDoor.keepB,UV m s.vs hlen,h.vl],rfl,fun i hi=>?_,fun i hi=>by simp at hi,h.fit,h.tab.mono (dU _ _) fun b _ c=>Jc C c⟩,h.same,fun k U=>h.hio k ⟨C k U.1,U.2⟩,h.fio,h.par.sub I⟩
 rcases aY m s.vs i with e|e
 .simp only[Go.Proofs.YtegmpdmpgmpiaaaGreatDoor.keepB];rw[e];exact SR.any
 .have R:(KU m s.vs).getD i .any∈KU m s.vs:=by
   have:i<(KU m s.vs).length:=by rw[UV m s.vs hlen,h.vl];exact hi
   rw[kf,geE this];exact e5 this
  have h1:=h.vs i hi;simp only[Go.Proofs.YtegmpdmpgmpiaaaGreatDoor.keepB];rw[←e]at h1;refine h1.mono (dU _ _) (fun b _ c=>Jc C c) fun k U j J=>⟨j,?_,rfl,rfl,rfl,rfl⟩
  rw[Qx,if_pos (h8.2 ⟨_,R,Od.2 U⟩)];exact J
def kx{k:Nat}:∀(l seen:List Nat),k∈ddp seen l ↔ k∈l/\k ∉ seen
 |[],seen=>by simp[ddp]
 | x::r,seen=>by
  simp only[ddp,AM]
  by_cases h:(seen.any fun y=>y==x)=bI
  .rw[if_pos h,kx r seen];have j:x∈seen:=by simpa using h
   simp only[eL];constructor
   .rintro⟨a,b⟩;exact⟨.inr a,b⟩
   .rintro⟨a|a,b⟩
    .subst a;exact absurd j b
    .exact⟨a,b⟩
  .rw[if_neg h];have j:x ∉ seen:=by simpa using h
   simp only[eL,kx r (x::seen),not_or];constructor
   .rintro(a|⟨a,b,c⟩)
    .subst a;exact⟨.inl rfl,j⟩
    .exact⟨.inr a,c⟩
   .rintro⟨a|a,b⟩
    .exact .inl a
    .by_cases e:k=x
     .exact .inl e
     .exact .inr ⟨a,e,b⟩
def ry(j x:Nat):Xq j x%32=31 ↔ x%32=31:=by
 unfold Xq;rw[AM];split
 .rfl
 .rename_i h;simp only[beq_iff_eq]at h;omega
def Sy:∀(ks:List Nat) (j k:Nat),tO ks j k%32=31 ↔ k%32=31
 |[],_,_=>Iff.rfl
 | x::r,j,k=>by
  simp only[tO,AM,beq_iff_eq];split
  .rename_i e;subst e;exact ry j k
  .exact Sy r (j+1) k
def ZD:∀(ks:List Nat) (j k:Nat),k%32=31->tO ks j k=k
 |[],_,_,_=>rfl
 | x::r,j,k,h=>by
  simp only[tO,AM,beq_iff_eq];split
  .rename_i e;subst e;unfold Xq;rw[AM,if_pos (by simpa using h)]
  .exact ZD r (j+1) k h
def qZ:∀(ks:List Nat) (j k:Nat),k∈ks->k%32≠31->∃i,j<=i/\tO ks j k=32*(100000+i)/\∃h:i-j<ks.length,ks[i-j]'h=k
 |[],_,_,h,_=>by simp at h
 | x::r,j,k,h,hm=>by
  simp only[tO,AM,beq_iff_eq]
  by_cases e:k=x
  .subst e;rw[if_pos rfl];refine⟨j,k6 _,?_,p',p'⟩;unfold Xq;rw[AM,if_neg (by simpa using hm)]
  .rw[if_neg e];rcases eL.1 h with C |C
   .exact absurd C e
   .obtain⟨i,R,h2,J,I⟩:=qZ r (j+1) k C hm;refine⟨i,n',h2,?_,?_⟩
    .simp only[lv];omega
    .have:i-j=(i-(j+1))+1:=n'
     simp only[this,List.getElem_cons_succ,I]
def AEV{ks:List Nat}{k j:Nat}(h:k∈ks)(I:j∈ks)(e:tO ks 0 k=tO ks 0 j):k=j:=by
 by_cases hm:k%32=31
 .have C:j%32=31:=by rw[←Sy ks 0 j,←e,Sy];exact hm
  rwa [ZD _ _ _ hm,ZD _ _ _ C]at e
 .have C:j%32≠31:=fun c=>hm (by rw[←Sy ks 0 k,e,Sy];exact c)
  obtain⟨i,_,a1,a2,a3⟩:=qZ ks 0 k h hm;obtain⟨i',_,U,R,J⟩:=qZ ks 0 j I C;have:i=i':=n'
  subst this;exact a3.symm.trans J
def nS{π:Nat->Nat}{ob:Cx}:∀(ks:List Nat),(∀k C,k∈ks->C∈ks->π k=π C->k=C)->∀j h,AK j (jx π ob ks)=cB h->∃k,k∈ks/\j=π k/\AK k ob=cB h
 |[],_,j,h,e=>by simp[jx,AK]at e
 | k::r,hi,j,h,e=>by
  have U:=nS (ob:=ob) r (fun a b ha hb=>hi a b (by simp[ha]) (by simp[hb])) j h;simp only[jx]at e;cases I:AK k ob with
  | none=>
   rw[I]at e;obtain⟨a,R,h2,J⟩:=U e;exact⟨a,by simp[R],h2,J⟩
  | some hm=>
   rw[I]at e;simp only[iP,BP]at e;split at e
   .rename_i e1;cases e
    exact⟨k,p',e1.symm,I⟩
   .obtain⟨a,R,h2,J⟩:=U e;exact⟨a,by simp[R],h2,J⟩
def nQ{π:Nat->Nat}{ob:Cx}:∀(ks:List Nat),(∀k C,k∈ks->C∈ks->π k=π C->k=C)->∀k h,k∈ks->AK k ob=cB h->AK (π k) (jx π ob ks)=cB h
 |[],_,k,h,J,_=>by simp at J
 | x::r,hi,k,h,J,I=>by
  have R:=nQ (ob:=ob) r (fun a b U hb=>hi a b (by simp[U]) (by simp[hb])) k h;simp only[jx]
  by_cases e:k=x
  .subst e;rw[I];simp[iP,BP]
  .have j:k∈r:=by
    rcases eL.1 J with c|c
    .exact absurd c e
    .exact c
   cases hx:AK x ob with
   |none=>exact R j I
   | some hm=>
    simp only[iP,BP];rw[if_neg fun c=>e (hi k x (by simp[j]) p' c.symm)];exact R j I
def QX.re{S S':Nat->Prop}{w:cS}{g g':Gh}{ob ob':Cx}{π:Nat->Nat}(U:∀b,S' b->S b){v:Value}{a:AV}
  (J:∀k,k∈a.key1->∀h,AK k ob=cB h->AK (π k) ob'=cB h/\g'.β (π k)=g.β k/\g'.cap (π k)=g.cap k) (h:QX S w g ob v a):QX S' w g' ob' v (a.re1 π):=by
 cases a
 case own k=>
  obtain⟨hm,j,R⟩:=h;obtain⟨I,C,e3⟩:=J k (by simp[AV.key1]) hm j;exact⟨hm,I,by rw[C,e3];exact R⟩
 case ref k i off=>
  obtain⟨hm,j,hi,rfl⟩:=h;obtain⟨I,C,_⟩:=J k (by simp[AV.key1]) hm j;exact⟨hm,I,hi,by rw[C]⟩
 all_goals exact VR.mono (dU _ _) (fun b _ c=>U b c) h
def Qz(π:Nat->Nat)(l:List AV)(i:Nat):(l.map (AV.re1 π)).getD i .any=AV.re1 π (l.getD i .any):=CA _ rfl l i
def SR.re{S S':Nat->Prop}{w:cS}{g g':Gh}{ob ob':Cx}{π:Nat->Nat}(R:∀b,S' b->S b){v:Value}{a:AV}
  (U:∀k,k∈a.keys->∀h,AK k ob=cB h->AK (π k) ob'=cB h/\g'.β (π k)=g.β k/\g'.cap (π k)=g.cap k) (h:SR S w g ob v a):SR S' w g' ob' v (a.re π):=by
 cases a
 case fn f a1 a2=>
  obtain⟨v1,v2,rfl,n1,n2,h1,h2⟩:=h;refine⟨v1,v2,rfl,by simp[n1],by simp[n2],fun j I=>?_,fun j I=>?_⟩
  .rw[Qz];refine(h1 j (by simpa using I)).re R fun k C=>U k ?_
   simp only[AV.keys,hZ,bS];exact .inl (DW (by simpa using I) C)
  .rw[Qz];refine(h2 j (by simpa using I)).re R fun k C=>U k ?_
   simp only[AV.keys,hZ,bS];exact .inr (DW (by simpa using I) C)
 case tup ad=>
  obtain⟨vs,rfl,n,h1⟩:=h;refine⟨vs,rfl,by simp[n],fun j I=>?_⟩;rw[Qz];exact(h1 j (by simpa using I)).re R fun k C=>U k (DW (by simpa using I) C)
 case opt b a=>
  simp only[SR,AV.re]at h ⊢;split at h
  .rename_i hb;rw[if_pos hb];exact h.re R U
  .rename_i hb;rw[if_neg hb];exact h
 case own k=>exact QX.re (w:=w) (a:=.own k) R (fun k' J=>U k' (by simpa[AV.keys,AV.key1]using J)) h
 case ref k i off=>exact QX.re (w:=w) (a:=.ref k i off) R (fun k' J=>U k' (by simpa[AV.keys,AV.key1]using J)) h
 all_goals exact VR.mono (dU _ _) (fun b _ c=>R b c) h
def FX.canonK(h:FX F Iow w0 g0 o0 g w tmps vm [] s){ks:List Nat}(ad:∀k,Lb s.ob k->k∈ks):∃g',FX F Iow w0 g0 o0 g' w tmps vm [] (canonK s ks):=by
 have J:=@AEV ks
 let π:=tO ks 0
 let σ:Nat->Nat:=fun j=>Classical.epsilon fun k=>k∈ks/\π k=j
 have hσ:∀k,k∈ks->σ (π k)=k:=by
  intro k I;have:=Classical.epsilon_spec (p:=fun k'=>k'∈ks/\π k'=π k) ⟨k,I,rfl⟩;exact J this.1 I this.2
 have R:∀j hm,AK j (Go.Proofs.YtegmpdmpgmpiaaaGreatDoor.canonK s ks).ob=cB hm->∃k,k∈ks/\j=π k/\AK k s.ob=cB hm:=fun j hm U=>nS ks (fun _ _=>J) j hm U
 have ao:∀k hm,AK k s.ob=cB hm->AK (π k) (Go.Proofs.YtegmpdmpgmpiaaaGreatDoor.canonK s ks).ob=cB hm:=fun k hm U=>nQ ks (fun _ _=>J) k hm (ad k ⟨hm,U⟩) U
 let g':Gh:=⟨fun j=>g.β (σ j),fun j=>g.cap (σ j)⟩
 have C:∀j,Mo g' (Go.Proofs.YtegmpdmpgmpiaaaGreatDoor.canonK s ks).ob j->Mo g s.ob (σ j)/\j=π (σ j):=by
  rintro j ⟨⟨hm,U⟩,hc⟩;obtain⟨k,I,rfl,ho⟩:=R j hm U;refine⟨⟨⟨hm,?_⟩,hc⟩,?_⟩
  .rw[hσ k I];exact ho
  .rw[hσ k I]
 have hS:∀b,AR F g' (Go.Proofs.YtegmpdmpgmpiaaaGreatDoor.canonK s ks).ob b->AR F g s.ob b:=by
  rintro b (hb|⟨j,hj,e⟩)
  .exact .inl hb
  .exact .inr ⟨σ j,(C j hj).1,e⟩
 refine⟨g',⟨fun j hm U=>?_,fun j j' a b e=>?_,fun j a=>h.nF (σ j) (C j a).1,h.fb,by simpa[Go.Proofs.YtegmpdmpgmpiaaaGreatDoor.canonK]using h.vl,rfl,fun i hi=>?_,fun i hi=>by simp at hi,h.fit,h.tab.mono (dU _ _) fun b _ c=>hS b c⟩,h.same,fun j hj=>h.hio (σ j) (C j hj).1,h.fio,fun j hm hj U=>?_⟩
 .obtain⟨k,I,rfl,ho⟩:=R j hm U;have:=h.home k hm ho;have e1:g'.β (π k)=g.β k:=by simp only[g'];rw[hσ k I]
  have e2:g'.cap (π k)=g.cap k:=by simp only[g'];rw[hσ k I]
  rw[e1,e2];exact this.mono (dU _ _) (fun _=>rfl) fun b _ c=>hS b c
 .obtain⟨a1,a2⟩:=C j a;obtain⟨b1,b2⟩:=C j' b;have:=h.inj (σ j) (σ j') a1 b1 e;rw[a2,b2,this]
 .have h1:=h.vs i hi;simp only[Go.Proofs.YtegmpdmpgmpiaaaGreatDoor.canonK];rw[CA _ rfl];refine h1.re hS fun k I hm ho=>⟨ao k hm ho,?_,?_⟩
  .simp only[g'];rw[hσ k (ad k ⟨hm,ho⟩)]
  .simp only[g'];rw[hσ k (ad k ⟨hm,ho⟩)]
 .obtain⟨k,I,rfl,ho⟩:=R j hm U;have ae:k%32=31:=(Sy ks 0 k).1 hj;have e0:π k=k:=ZD ks 0 k ae;obtain⟨h0,p1,p2,p3,p4⟩:=h.par k hm ae ho;refine⟨h0,by rw[e0];exact p1,p2,p3,fun e=>?_⟩;have e1:g'.β (π k)=g.β k:=by simp only[g'];rw[hσ k I]
  have e2:g'.cap (π k)=g.cap k:=by simp only[g'];rw[hσ k I]
  rw[e1,e2,e0];exact p4 e
def FX.keepS(h:FX F Iow w0 g0 o0 g w tmps vm [] s){m:List Bool}(hm:m.length=vm.length):∃g',FX F Iow w0 g0 o0 g' w tmps vm [] (l7 m s):=by
 have C:=h.keepB hm;unfold Go.Proofs.YtegmpdmpgmpiaaaGreatDoor.keepS pS;cases ho:(Go.Proofs.YtegmpdmpgmpiaaaGreatDoor.keepB m s).ob with
 |nil=>exact⟨g,C⟩
 | cons p r=>
  refine C.canonK fun k R=>?_
  rw[kx];refine⟨?_,p'⟩;obtain⟨J,j⟩:=R;simp only[Go.Proofs.YtegmpdmpgmpiaaaGreatDoor.keepB,Qx]at j;split at j
  .rename_i I;obtain⟨a,U,hb⟩:=h8.1 I;exact k4.2 ⟨a,U,Od.1 hb⟩
  .cases j
def bf(h:FR F g w tmps vm ss s){c:ln}{j:Src}(C:Bb vm ss c j=bI){b:Bool}(hb:rd s j = .bool b):({ tmps:=tmps,defers:=ds }:Act).eval c = .bool b:=by
 have:=h.src (ds:=ds) C;rw[hb]at this;exact PC this
def xU{L:Nat}{c:Code}{f:St->FM}{keep out rt:List Bool}(hk:keep.length=vm.length)(ho:out.length=vm.length)(ab:rt.length=vm.length)
  (body:∀{Q:m'->Act->cS->Prop} {s:St} {g:Gh} {w:cS} {tmps:Array Value},FX F Iow w0 g0 o0 g w tmps vm [] s->tmps.size=n->(f s).2.ok=bI ->
   (∀j w' g',j.size=n->FX F Iow w0 g0 o0 g' w' j vm [] (f s).2->Q (Wu (f s).1) ⟨j,ds⟩ w')->c.wp P Q ⟨tmps,ds⟩ w)
  (hf:∀s,(f s).2.ok=bI->s.ok=bI)
  (h:FX F Iow w0 g0 o0 g w tmps vm [] s) (hn:tmps.size=n) (C:(Og f keep out rt L (l7 keep s)).2.ok=bI)
  (hK:∀j w' g',j.size=n->FX F Iow w0 g0 o0 g' w' j vm [] (Og f keep out rt L (l7 keep s)).2->Q (Wu (Og f keep out rt L (l7 keep s)).1) ⟨j,ds⟩ w'):(Code.loop c).wp P Q ⟨tmps,ds⟩ w:=by
 generalize hr:Og f keep out rt L (l7 keep s)=r at C hK
 let J:Nat->Act->cS->Prop:=fun m a w=>∃tmps s g,a=⟨tmps,ds⟩/\tmps.size=n/\FX F Iow w0 g0 o0 g w tmps vm [] s/\Og f keep out rt m s=r
 obtain⟨g1,h1⟩:=h.keepS hk;refine wp_loop (fun a w=>∃m,J m a w) (fun a w=>Qp fun m=>J m a w) ⟨L,tmps,_,g1,rfl,hn,h1,hr⟩ fun a w hI=>?_
 have U:=(OB hI).1;revert U;generalize Qp (fun m=>J m a w)=m;rintro⟨tmps,s,g,rfl,hn,ae,hit⟩;cases m with
 |zero=>rw[←hit]at C;simp[Og,fail]at C
 | succ m=>
  simp only[Og]at hit
  have aa:(f s).2.ok=bI:=by
   rw[←hit]at C;revert C;generalize f s=q;intro C;obtain⟨e,s'⟩:=q;cases e
   .simp only[MV,MM]at C;have h3:=Vo hf m _ C;rwa [Kj]at h3
   .simpa only[MV,MM,Kj]using C
   .simpa only[MV,MM,Kj]using C
  refine body ae hn aa fun j w' g' R I=>?_
  revert hit I;generalize f s=q;intro hit I;obtain⟨e,s'⟩:=q;cases e
  .simp only[MV,MM]at hit;simp only[Wu,Exit.then];obtain⟨g2,h2⟩:=FX.keepS I hk;have hJ:J m ⟨j,ds⟩ w':=⟨j,_,g2,rfl,R,h2,hit⟩;exact⟨⟨m,hJ⟩,Nat.lt_succ_of_le ((OB ⟨m,hJ⟩).2 m hJ)⟩
  .simp only[MV,MM]at hit;subst hit;obtain⟨g2,h2⟩:=FX.keepS I ho;exact hK _ _ _ R h2
  .simp only[MV,MM]at hit;subst hit;obtain⟨g2,h2⟩:=FX.keepS I ab;exact hK _ _ _ R h2
def LM{L:Nat}(hT:Ls P T)(aa:RR vm):∀(c:Code) (ir:IR) {Q:m'->Act->cS->Prop} {s:St} {g:Gh} {w:cS} {tmps:Array Value},rp P n vm c ir=bI->FX F Iow w0 g0 o0 g w tmps vm [] s->tmps.size=n->(CH T L ir s).2.ok=bI ->
  (∀U w' g',U.size=n->FX F Iow w0 g0 o0 g' w' U vm [] (CH T L ir s).2->Q (Wu (CH T L ir s).1) ⟨U,ds⟩ w')->c.wp P Q ⟨tmps,ds⟩ w
 | c,ir,Q,s,g,w,tmps,hc,h,hn,C,J=>by
  unfold rp at hc;split at hc
  .exact wp_skip (J _ _ _ hn h)
  .exact wp_label (J _ _ _ hn h)
  .rename_i id ops is;obtain⟨ss',hs⟩:=zX hc;simp only[CH]at C J;exact wp_region_list (XW hT aa ops.toList is h hn hs C fun U w' g' R I=>J _ _ _ R I.drop)
  .rename_i id ops c a b is c' a' b';simp only[hL]at hc;obtain⟨ad,az,ay⟩:=hc;split at ad
   .rename_i ss' hs;simp only[CH,Uy]at C J
    have au:(Gj T is s).ok=bI:=by
     cases hv:rd (Gj T is s) c'<;>rw[hv]at C<;>simp only[Om,fail]at C<;>(try(cases C;done))
     split at C
     .have h3:=Ej a' C;exact h3
     .have h3:=Ej b' C;exact h3
    refine wp_seq (wp_region_list (XW hT aa ops.toList is h hn hs au fun U w' g' R I=>?_));simp only[Exit.then];cases hv:rd (Gj T is s) c'<;>rw[hv]at C J<;>simp only[Om,fail]at C J<;>(try(cases C;done))
    rename_i bv;refine wp_cond (bf I.toFR ad hv) ?_;cases bv
    .simp only[bfT,if_false]at C J ⊢;exact LM hT aa b b' ay I.drop R C J
    .simp only[if_true]at C J ⊢;exact LM hT aa a a' az I.drop R C J
   .cases ad
  .rename_i id ops k is alts;simp only[CH]at C J;exact ADa hT aa hc h hn C fun U w' g' R I=>J _ _ _ R I.drop
  .rename_i id ops c a b k is alts c' a' b';simp only[hL]at hc;obtain⟨ad,az,ay,be⟩:=hc;simp only[CH,Uy]at C J
   have au:(WP T k is alts s).ok=bI:=by
    cases hv:rd (WP T k is alts s) c'<;>rw[hv]at C<;>simp only[Om,fail]at C<;>(try(cases C;done))
    split at C
    .have h3:=Ej a' C;exact h3
    .have h3:=Ej b' C;exact h3
   refine wp_seq (ADa hT aa ad h hn au fun U w' g' R I=>?_);simp only[Exit.then];cases hv:rd (WP T k is alts s) c'<;>rw[hv]at C J<;>simp only[Om,fail]at C J<;>(try(cases C;done))
   rename_i bv;refine wp_cond (bf I.toFR az hv) ?_;cases bv
   .simp only[bfT,if_false]at C J ⊢;exact LM hT aa b b' be I.drop R C J
   .simp only[if_true]at C J ⊢;exact LM hT aa a a' ay I.drop R C J
  .rename_i a b a' b';simp only[hL]at hc;simp only[CH]at C J
   have ax:(CH T L a' s).2.ok=bI:=by
    revert C;generalize CH T L a' s=r;intro C;obtain⟨e,s'⟩:=r;cases e
    .have h3:=Ej b' C;exact h3
    .exact C
    .exact C
   refine wp_seq (LM hT aa a a' hc.1 h hn ax fun U w' g' R I=>?_);revert C J I;generalize CH T L a' s=r;intro C J I;obtain⟨e,s'⟩:=r;cases e
   .exact LM hT aa b b' hc.2 I R C J
   .exact J _ _ _ R I
   .exact J _ _ _ R I
  .rename_i c a b c' a' b';simp only[hL]at hc;obtain⟨ad,az,ay⟩:=hc;simp only[CH]at C J;cases hv:rd s c'<;>rw[hv]at C J<;>simp only[Om,fail]at C J<;>(try(cases C;done))
   rename_i bv;refine wp_cond (bf h.toFR ad hv) ?_;cases bv
   .simp only[bfT,if_false]at C J ⊢;exact LM hT aa b b' ay h hn C J
   .simp only[if_true]at C J ⊢;exact LM hT aa a a' az h hn C J
  .rename_i i a j a';simp only[hL,beq_iff_eq]at hc;obtain⟨rfl,hc⟩:=hc;simp only[CH]at C J
   have ax:(CH T L a' s).2.ok=bI:=by
    revert C;generalize CH T L a' s=r;intro C;obtain⟨e,s'⟩:=r;cases e
    .exact C
    .simp only[YP]at C;rw[AM]at C;split at C<;>exact C
    .exact C
   refine wp_block (LM hT aa a a' hc h hn ax fun U w' g' R I=>?_);revert C J I;generalize CH T L a' s=r;intro C J I;obtain⟨e,s'⟩:=r;cases e
   .exact J _ _ _ R I
   .rename_i k;simp only[Wu,Exit.inBlock];simp only[YP,AM,beq_iff_eq]at J
    by_cases e:k=i
    .rw[if_pos e];rw[if_pos e]at J;exact J _ _ _ R I
    .rw[if_neg e];rw[if_neg e]at J;exact J _ _ _ R I
   .exact J _ _ _ R I
  .rename_i a keep out rt a';simp only[hL,beq_iff_eq]at hc;obtain⟨hk,ho,bb,hc⟩:=hc;simp only[CH]at C J;exact xU hk ho bb (fun{Q s g w tmps} I R ba bh=>LM hT aa a a' hc I R ba bh) (fun s hs=>Ej a' hs) h hn C J
  .rename_i i j;simp only[beq_iff_eq]at hc;subst hc;exact wp_exit (J _ _ _ hn h)
  .exact wp_ret (J _ _ _ hn h)
  .rename_i m a';simp only[hL,beq_iff_eq]at hc;obtain⟨hm,hc⟩:=hc;simp only[CH]at C J;refine LM hT aa _ a' hc h hn (XU C) fun U w' g' R I=>?_
   revert C J I;generalize CH T L a' s=r;intro C J I;obtain⟨e,s'⟩:=r;cases e
   .obtain⟨g2,h2⟩:=FX.keepS I hm;exact J _ _ _ R h2
   .exact J _ _ _ R I
   .exact J _ _ _ R I
  .cases hc
end
