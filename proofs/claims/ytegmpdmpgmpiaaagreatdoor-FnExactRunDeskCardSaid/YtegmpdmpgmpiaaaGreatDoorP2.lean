/- Lemmas and walks, several texts in one. No condition. -/
import Derived.Test.YtegmpdmpgmpiaaaGreatDoorP1
import Derived.Orders
open Array renaming getElem?_eq_getElem->cL,empty_append->gw,append_empty->h8,all_eq_true->hy,size_setIfInBounds->hY,any_eq_true->j3,getElem?_eq_none->k8
open Bool renaming true->bI,false->bX,not_eq_true'->cA,or_eq_true->e5,and_right_comm->hP,false_ne_true->j1,eq_false_iff->j5,not_true->k3,false_or->k4,and_true->k5
open Go renaming World->cS,Program->e8,execOp->eL,Deferred->hE,undef->hN,Oper->iS,yielded->ka,Operand->kR,FuncId->l0,callFunc->l5,Exit->lf
open Go.Oper renaming upon_value->gv
open Go.Proofs.YtegmpdmpgmpiaaaGreatDoor renaming freezeAll->e9,baT->h9,slots->iZ,freezeH->j9,gdE->k7,keepS->kz,killAll->l8,dtE->l9
open Go.Proofs.YtegmpdmpgmpiaaaGreatDoor.AG renaming refl->dX
open Go.Region renaming wanted->hX,ready->k1
open List renaming map_congr_left->bN,all_eq_true->bR,mem_append->bS,getD_cons_succ->dT,getElem_mem->e7,mem_cons->ec,range->fI,mem_map->gf,isEmpty_iff->gg,any_eq_true->gj,getD_cons_zero->gr,getElem?_eq_none->hD,getElem?_set_ne->hG,foldl_cons->hL,flatMap_append->hO,pairwise_cons->hW,length_erase_of_mem->hZ,all_cons->ic,mem_filter->iI,mem_of_getElem?->iN,mem_cons_of_mem->iR,mem_singleton->j0,any_eq_false->j4,mem_flatMap->j6,eq_nil_iff_forall_not_mem->j7,length_eq_zero_iff->k6,getElem?_set_self->k9,mem_of_mem_erase->kf,contains_eq_mem->kn,length_append->ku,foldl_append->kI,length_cons->l3,flatMap_def->l4,set_comm->l6,map_set->l7
open List.Perm renaming refl->ik
open Nat renaming lt_or_ge->hA,sub_self->iB,add_sub_cancel->j2,le_refl->j8,zero_mul->kb,zero_add->ke,eq_zero_or_pos->kB,add_comm->lb
open Option renaming some->cI,none->ga,isNone_iff_eq_none->hV,getD_some->kp,map_some->kA
open Option.some renaming injEq->fA
set_option linter.defProp false
set_option linter.unusedSimpArgs false
set_option linter.unusedVariables false
noncomputable section
namespace Go.Proofs.YtegmpdmpgmpiaaaGreatDoor
open Go Go.RowKit
def gY(vm ss:List Nat)(sz:Nat):Op->Bool
 | .move y=>BU vm ss y (.c .nilsl)&&decide (1<=sz)
 | .assign y=>BU vm ss y (.c .nilsl)&&decide (1<=sz)
 | _=>bX
def Oe(P:e8)(vm ss:List Nat)(op:Op):Jc->Bool
 | .mov x=>AHu vm ss x op
 | .newnil sz=>gY vm ss sz op
 | .alloc z=>oW P z op
 | .box x=>AHz vm ss x op
 | .build z ps=>oV P vm ss z ps op
 | .mkSl sz z n ps=>yj P vm ss sz z n ps op
 | .load agg sz p=>ym P vm ss agg sz p op
 | .nilck x=>oT vm ss x op
 | .bin bl u x y=>AIA P vm ss bl u x y op
 | .eqA neg ks x y=>AHy P vm ss neg ks x y op
 | .un u x=>cUn vm ss u x op
 | .conv k x=>yn P vm ss k x op
 | .b2s x=>AIB P vm ss x op
 | .s2b x=>AHt P vm ss x op
 | .mkFn f fi ca=>yk vm ss f fi ca op
 | .make sz bytes z l c=>yl P vm ss sz bytes z l c op&&decide (1<=sz)
 | .slice sz x lo hi=>oS P vm ss sz x lo hi op
 | .fldAddr off p=>Zs P vm ss off p op
 | .fld agg off sz x=>AHw P vm ss agg off sz x op
 | .ixAddr sz x i=>gZ P vm ss sz x i op
 | .ixStr x i=>oU P vm ss x i op
 | .ext x i=>AHx vm ss x i op
 | .len st x=>AHv P vm ss st x op
 | .minmax mx xs=>cMM vm ss mx xs op
 | .pick _ _ _=>bX
 | .store _ _ _=>bX
 | .call _ _=>bX
 | .callp _ _=>bX
 | .callv _ _=>bX
 | .app _ _ _ _ _=>bX
 | .pur _=>bX
 | .callw _ _=>bX
 | .flat _=>bX
 | .trunc _ _ _=>bX
 | .movz _=>bX
 | .safe _ _=>bX
section
variable {F Iow:Nat->Prop}{w0:cS}{g0:Gh}{o0:Cp}{g:Gh}{w w':cS}{tmps:Array Value}{ds:List hE}{vm ss ss':List Nat}{s:St}{P:e8}{o:iS}{key:Nat}
theorem vN(h:FR F g w tmps vm ss s){sz:Nat}(j:gY vm ss sz o.op=bI):
  BM (AS F g s.ob) w g s.ob key ⟨bI,.own (Bh key),[(Bh key,⟨sz,[]⟩)]⟩ ((eL ({ tmps:=tmps,defers:=ds }:Act).eval o).run P w):=by
 have p:∀ y,BU vm ss y (.c .nilsl)=bI->1<=sz->(eL ({ tmps:=tmps,defers:=ds }:Act).eval o).run P w = .ok (.value (({ tmps:=tmps,defers:=ds }:Act).eval y)) w ->
   BM (AS F g s.ob) w g s.ob key ⟨bI,.own (Bh key),[(Bh key,⟨sz,[]⟩)]⟩ ((eL ({ tmps:=tmps,defers:=ds }:Act).eval o).run P w):=by
  intro y R C U;have I:=Sq (h.src (ds:=ds) R);refine⟨_,w,U,dX _ _,.inr ⟨Bh key,⟨sz,[]⟩,w.heap.size,0,rfl,by simp[Bh],j8 _,fun S' hS=>?_,.inl ⟨rfl,.inr ⟨rfl,I⟩⟩⟩⟩;exact⟨C,j8 _,fun i hi=>by simp at hi,fun C=>absurd C (Nat.lt_irrefl _)⟩
 unfold gY at j;split at j
 ·rename_i y J;simp only[h9,l9] at j;exact p y j.1 j.2 (by simp[eL,J])
 ·rename_i y J;simp only[h9,l9] at j;exact p y j.1 j.2 (by simp[eL,J])
 ·cases j
theorem Tl(h:FR F g w tmps vm ss s){a:Jc}(p:Oe P vm ss o.op a=bI)(j:(AQ (rd s) s.ob key a).ok=bI):
  BM (AS F g s.ob) w g s.ob key (AQ (rd s) s.ob key a) ((eL ({ tmps:=tmps,defers:=ds }:Act).eval o).run P w):=by
 cases a<;>simp only[Oe] at p<;>simp only[AQ] at j ⊢<;>try (cases p;done)
 case mov=>exact AJM h p
 case newnil=>exact vN h p
 case alloc=>exact zy h p j
 case box=>exact AJR h p j
 case build=>exact zx h p j
 case mkSl=>exact AFg h p j
 case load=>exact AFj h p j
 case nilck=>exact zq h p j
 case bin=>exact AJS h p j
 case eqA=>exact AJQ h p j
 case un=>exact s_un h p j
 case conv=>exact AFm h p j
 case b2s=>exact AJT h p j
 case s2b=>exact AJL h p j
 case mkFn=>exact AFh h p j
 case make=>
  simp only[h9,l9] at p;exact AFi h p.1 j p.2
 case slice=>exact zp h p j
 case fldAddr=>exact sK h p j
 case fld agg off sz x=>
  simp only[Gq,h9] at j;obtain⟨v,w',J,I,C⟩:=AJO (key:=key) (ds:=ds) h p j.2 j.1;exact⟨v,w',J,I,C⟩
 case ixAddr=>exact vO h p j
 case ixStr=>exact zr h p j
 case ext=>exact AJP h p j
 case len=>exact AJN h p j
 case minmax=>exact s_mm h p j
def un1:AV->AV
 | .opt bI a=>a
 | .opt bX _=>.any
 | .int k n=>.int k n
 | .bool b=>.bool b
 | .str l=>.str l
 | .cv v=>.cv v
 | .agg cs=>.agg cs
 | .tup cs=>.tup cs
 | .sl sz els=>.sl sz els
 | .nilsl=>.nilsl
 | .ptr sz els i off=>.ptr sz els i off
 | .fn f a b=>.fn f a b
 | .own k=>.own k
 | .ref k i off=>.ref k i off
 | .fresh sz els=>.fresh sz els
 | .mem sz els i=>.mem sz els i
 | .any=>.any
theorem SR.un1{S:Nat->Prop}{ob:Cp}{v:Value}{a:AV}(h:SR S w g ob v a):SR S w g ob v (un1 a):=by
 cases a<;>try exact h
 rename_i b a;cases b
 ·exact SR.any
 ·simp only[SR,if_true] at h;exact h.toSR
def unS(s:St):St:={ s with vs:=s.vs.map un1,st:=s.st.map un1 }
theorem FR.unS(h:FR F g w tmps vm ss s):FR F g w tmps vm ss (unS s) :=
 ⟨h.home,h.inj,h.nF,h.fb,by simpa[Go.Proofs.YtegmpdmpgmpiaaaGreatDoor.unS] using h.vl,by simpa[Go.Proofs.YtegmpdmpgmpiaaaGreatDoor.unS] using h.sl,
  fun i hi=>by simp only[Go.Proofs.YtegmpdmpgmpiaaaGreatDoor.unS];rw[Bv un1 rfl];exact (h.vs i hi).un1,
  fun i hi=>by simp only[Go.Proofs.YtegmpdmpgmpiaaaGreatDoor.unS];rw[Bv un1 rfl];exact (h.st i hi).un1,h.fit,h.tab⟩
theorem ch{a:AV}(h:DQ bI a=bI):un1 a=Jd a:=by
 cases a<;>try rfl
 rename_i b a;simp only[DQ,k3,k4] at h;subst h;rfl
theorem Yd{x:Src}(h:DQ bI (rd s x)=bI):rd (unS s) x=VX s x:=by
 cases x
 case c=>rfl
 all_goals
  simp only[rd,unS,VX] at h ⊢;rw[Bv un1 rfl];exact ch h
theorem Hy{r r':Src->AV}{ob:Cp}{d:Nat}{a:Jc}(C:Ax a=bI)(h:∀ x,x∈BO a->r x=r' x):AQ r ob d a=AQ r' ob d a:=by
 cases a<;>simp only[Ax] at C<;>(try (cases C;done))<;>simp only[BO] at h<;>simp only[AQ]
 case slice sz x lo hi=>
  have J:lo.map r=lo.map r':=by cases lo<;>simp_all
  have I:hi.map r=hi.map r':=by cases hi<;>simp_all
  rw[J,I,h x (by simp)]
 case minmax mx xs=>rw[bN h]
 case build z ps=>
  have e:(ps.map fun p=>(p.1,p.2.1,r p.2.2))=ps.map fun p=>(p.1,p.2.1,r' p.2.2):=bN fun p j=>by rw[h _ (gf.2 ⟨p,j,rfl⟩)]
  rw[e]
 case mkSl sz z n ps=>
  have e:(ps.map fun p=>(p.1,r p.2))=ps.map fun p=>(p.1,r' p.2):=bN fun p j=>by rw[h _ (gf.2 ⟨p,j,rfl⟩)]
  rw[e]
 all_goals simp_all
theorem BM.frz(h:FR F g w tmps vm ss s){m:Mk}{r:Result Next}(hp:BM (AS F g s.ob) w g s.ob key m r):
  ∃ v w',r = .ok (.value v) w'∧AG (fun _=>False) w w'∧SR (AS F g s.ob) w' g s.ob v (SP m).v:=by
 obtain⟨v,w',hr,hw,p⟩:=hp;refine⟨v,w',hr,hw,?_⟩;rcases p with⟨h0,hs⟩|⟨k,h',b,cap,e,_,hb,hH,hv⟩
 ·simp only[SP,h0,xO];exact hs
 ·simp only[SP,e,xO];have J:=hH (AS F g s.ob) fun c hc=>.inl hc
  obtain⟨rr,j⟩:=J.cell;have hn:0<cap->¬ AS F g s.ob b:=fun _ c=>by have:=h.setLt c;omega
  obtain⟨q1,U,R⟩:=J.sl j (fun _ c=>c) hn;rcases hv with⟨I,C⟩|⟨I,C,e3⟩
  ·rw[I];simp only[tj];rcases C with C|⟨C,e4⟩
   ·rw[C];exact q1.toSR
   ·rw[e4];exact (U C).toSR
  ·rw[I,e3];simp only[tj];have:=R 0 0 C;rw[kb,ke] at this;exact this.toSR
theorem SR.lone{S:Nat->Prop}{ob:Cp}{v:Value}{a:AV}(h:SR S w g ob v a)(p:a.lone=bI):SR S w g ob v (.opt bI a):=by
 simp only[SR,if_true];cases a
 case fn f fi ca=>
  have j:(AV.fn f fi ca).atoms=bI:=by simpa[AV.atoms,AV.cells,AV.atom,AV.lone] using p
  exact h.atoms j
 all_goals first|exact h|(simp[AV.lone] at p)
theorem FX.guardPut(h:FX F Iow w0 g0 o0 g w tmps vm ss s)(I:QM vm){dst:Option Nat}{D:Ji}(hd:Ew vm ss dst D=cI ss')(C:∀ d,dst=cI d->d<tmps.size){m:Mk}{v:Value}
  (J:AG (fun _=>False) w w') (U:m.ok=bI->m.hs=[]->SR (AS F g s.ob) w' g s.ob v m.v) (j:(OW s bI D m).ok=bI) :
  FX F Iow w0 g0 o0 g w' (It tmps dst v) vm ss' (OW s bI D m):=by
 have hm:m.ok=bI∧m.hs=[]∧m.v.lone=bI:=by
  unfold OW at j;cases D<;>simpa[BE] using (by simpa[BE] using j:_∧_).2
 have h1:=(h.toFR.grow J).put I hd C (!true||(m.ok&&(m.hs.isEmpty&&m.v.lone))) (v:=v) (a:=.opt bI m.v) (fun _=>(U hm.1 hm.2.1).lone hm.2.2);have p:(OW s bI D m).ob=s.ob:=by cases D<;>rfl
 exact FX.mk' (w:=w) h1 h.same (J.mono fun _ _ c=>c.elim) (fun k R=>h.hio k (by rw[p] at R;exact R)) h.fio (by rw[p];exact h.par)
theorem FX.guardSkip(h:FX F Iow w0 g0 o0 g w tmps vm ss s)(C:QM vm){dst:Option Nat}{D:Ji}(hd:Ew vm ss dst D=cI ss')(p:∀ d,dst=cI d->d<tmps.size){m:Mk}:
  FX F Iow w0 g0 o0 g w (It tmps dst hN) vm ss' (OW s bX D m):=by
 have J:=h.toFR.put C hd p (!false||(m.ok&&(m.hs.isEmpty&&m.v.lone))) (v:=hN) (a:=.opt bX m.v) (fun _=>by simp[SR]);have j:(OW s bX D m).ob=s.ob:=by cases D<;>rfl
 exact FX.mk' (w:=w) J h.same (dX _ _) (fun k I=>h.hio k (by rw[j] at I;exact I)) h.fio (by rw[j];exact h.par)
def fG(vm ss:List Nat)(c a b:Src):Op->Bool
 | .pick x y z=>BU vm ss x c&&(BU vm ss y a&&BU vm ss z b)
 | _=>bX
theorem nL(c:Bool)(x y:AV):Yo c x y = .any∨Yo c x y=(bif c then x else y):=by
 unfold Yo;split
 ·right;cases c<;>rfl
 ·rename_i k p j q
  by_cases e:k=j
  ·subst e;right;simp only[beq_self_eq_true,cond_true];cases c<;>rfl
  ·have:(k==j)=bX:=by simpa using e
   simp only[this,cond_false];exact .inl trivial
 ·right;cases c<;>rfl
 ·exact .inr rfl
theorem AAP{S:Nat->Prop}{ob:Cp}{v u:Value}{x y:AV}(c:Bool)(p:c=bI->SR S w g ob v x)(j:c=bX->SR S w g ob u y):SR S w g ob (if c=bI then v else u) (Yo c x y):=by
 rcases nL c x y with e|e
 ·rw[e];exact SR.any
 ·rw[e];cases c
  ·exact j rfl
  ·exact p rfl
theorem vM(h:FR F g w tmps vm ss s){c a b:Src}(I:fG vm ss c a b o.op=bI){J:AV}(p:SR (AS F g s.ob) w g s.ob (({ tmps:=tmps,defers:=ds }:Act).eval (match o.op with | .pick x _ _=>x|_=>.const hN)) J)(j:(NV bI (rd s a) (rd s b) J).ok=bI):
  BM (AS F g s.ob) w g s.ob key (NV bI (rd s a) (rd s b) J) ((eL ({ tmps:=tmps,defers:=ds }:Act).eval o).run P w):=by
 unfold fG at I;split at I
 ·rename_i x y z he;simp only[h9] at I;obtain⟨h1,h2,h3⟩:=I;rw[he] at p;have U:=h.src (ds:=ds) h2;have R:=h.src (ds:=ds) h3;cases J<;>simp only[NV,bad] at j<;>try (cases j;done)
  rename_i cb;have C:=Nz p;simp only[NV,Fp,Bool.true_and,h9] at j ⊢
  have un:∀ {v:Value} {q:AV},SR (AS F g s.ob) w g s.ob v q->DQ bI q=bI->SR (AS F g s.ob) w g s.ob v (Jd q):=fun hs ho=>by
   rw[← ch ho];exact hs.un1
  refine .val (v:=if cb=bI then ({ tmps:=tmps,defers:=ds }:Act).eval y else ({ tmps:=tmps,defers:=ds }:Act).eval z) (by simp only[] at C;simp[eL,he,C,asBool]) rfl (AAP cb (fun e=>?_) (fun e=>?_))
  ·subst e;exact un U j.1
  ·subst e;exact un R j.2
 ·cases I
end
open Go Go.RowKit
def Np(args:List AV):St:={ vs:=Mi 0 args,st:=[],ob:=BR 0 args,ok:=true }
def uf(S:Nat->Prop)(w:cS)(g:Gh)(ob:Cp)(k:Nat)(v:Value):AV->Prop
 | .fresh sz els=>AK k ob=cI ⟨sz,els⟩∧(v = .slice (cI ⟨g.β k,0,ga⟩) els.length (g.cap k)∨(g.cap k=0∧v = .slice ga 0 0))
 | .mem sz els _=>AK k ob=cI ⟨sz,els⟩∧(els.length=1∧v = .pointer (cI ⟨g.β k,0,ga⟩))
 | a=>VR S w v a
def RV(S:Nat->Prop)(w:cS)(g:Gh)(ob:Cp)(κ:Nat->Nat)(v:Value):AV->Prop
 | .tup p=>∃ vs,v = .tuple vs∧vs.size=p.length∧∀ j,j<p.length->uf S w g ob (κ (j+1)) (vs.getD j hN) (p.getD j .any)
 | a=>uf S w g ob (κ 0) v a
def JH:AV->Bool
 | .fresh _ _=>bI
 | .mem _ _ _=>bI
 | _=>bX
def Jk(r:AV)(i:Nat):Prop :=
 match r with
 | .tup p=>∃ j,i=j+1∧j<p.length∧JH (p.getD j .any)=bI
 | a=>i=0∧JH a=bI
def Um:AV->Bool
 | .int _ _=>bI
 | .bool _=>bI
 | .str _=>bI
 | _=>bX
def qh(a:AV):Bool:=a.cells.all Um
def RH:AV->Bool
 | .fresh _ els=>els.all qh
 | .mem _ els _=>els.all qh
 | a=>Um a
def OJ:AV->Bool
 | .tup j=>j.all RH
 | a=>RH a
structure bu(F:Nat->Prop)(g0:Gh)(args:List AV)(modes:List Md)(w:cS)(v:Value)(w':cS)(r:AV)(outs:List AV)(g:Gh)(ob:Cp)(κ:Nat->Nat):Prop where
 same:AG (fun b=>∃ k,Ma g0 (BR 0 args) k∧g0.β k=b) w w'
 home:∀ k h,AK k ob=cI h->IK (AS F g ob) w' (g.β k) (g.cap k) h.sz h.els
 inj:∀ k k',Ma g ob k->Ma g ob k'->g.β k=g.β k'->k=k'
 nF:∀ k,Ma g ob k->¬ F (g.β k)
 hio:∀ k,Ma g ob k->w.heap.size<=g.β k∨∃ k',Ma g0 (BR 0 args) k'∧g0.β k'=g.β k
 val:RV (AS F g ob) w' g ob κ v r
 κinj:∀ i j,Jk r i->Jk r j->κ i=κ j->i=j
 κio:∀ i j,Jk r i->modes[j]? = cI .io->κ i≠AD j
 out:∀ j,modes[j]? = cI .io->∃ sz e0 els,((args.getD j .any = .fresh sz e0∧outs.getD j .any = .fresh sz els)∨(∃ i i',args.getD j .any = .mem sz e0 i∧outs.getD j .any = .mem sz els i')) ∧
  els.length=e0.length∧AK (AD j) ob=cI ⟨sz,els⟩∧g.β (AD j)=g0.β (AD j)∧g.cap (AD j)=g0.cap (AD j)
def DD(P:e8)(f:l0)(args:Array Value)(w:cS)(R:Ending->cS->Prop):Prop :=
 match (l5 f args).run P w with
 | .ok (.value v) w'=>R (.returned v) w'
 | .ok (.enter f' j) w'=>Calls P f' j w' R
 | _=>False
def wL(ms:List Md):Bool:=ms.all fun m=>!(m == .io)
def CF(P:e8)(f:l0)(C:Ar):Prop :=
 (C.flat=bI->wL C.modes=bI) ∧
 ∀ (F:Nat->Prop) (g0:Gh) (w:cS) (args:List AV) (vargs:Array Value),Fh C.modes args=bI->vargs.size=args.length ->
  FR F g0 w vargs (fI args.length) [] (Np args)->(C.F args).ok=bI ->
  (C.flat=bI->OJ (C.F args).r=bI) ∧
  DD P f vargs w fun e w'=>∃ v g ob κ,e = .returned v∧bu F g0 args C.modes w v w' (C.F args).r (C.F args).outs g ob κ
theorem lF{S S':Nat->Prop}{w w':cS}{v:Value}{a:AV}(j:Um a=bI)(h:VR S w v a):VR S' w' v a:=by
 cases a<;>simp[Um] at j<;>cases h<;>constructor
def Ie:AV->Option Hm
 | .fresh sz els=>cI ⟨sz,els⟩
 | .mem sz els _=>cI ⟨sz,els⟩
 | _=>ga
theorem UL{i j:Nat}(h:AD i=AD j):i=j:=by unfold AD at h;omega
theorem TK(k:Nat):∀ (args:List AV) (i:Nat),AK k (BR i args)=if k%32=31∧i<=k/32 then Ie (args.getD (k/32-i) .any) else ga
 | [],i=>by simp[BR,AK,Ie]
 | a::r,i=>by
  have U:=TK k r (i+1)
  have step:∀ h:Hm,AK k ((AD i,h)::BR (i+1) r)=if k%32=31∧i<=k/32 then (if k/32=i then cI h else Ie ((a::r).getD (k/32-i) .any)) else ga:=by
   intro h;simp only[AK,AM,beq_iff_eq,U]
   by_cases e:AD i=k
   ·subst e;have h1:(32*i+31)%32=31:=by omega
    have h2:(32*i+31)/32=i:=by omega
    simp[AD,h1,h2]
   ·rw[if_neg e]
    by_cases j:k%32=31
    ·have J:k/32≠i:=fun e2=>e (by unfold AD;omega)
     by_cases I:i<=k/32
     ·rw[if_pos ⟨j,by omega⟩,if_pos ⟨j,I⟩,if_neg J,show k/32-i=(k/32-(i+1))+1 by omega,dT]
     ·rw[if_neg (by omega),if_neg (by omega)]
    ·rw[if_neg (by omega),if_neg (by omega)]
  have skip:Ie a=ga->AK k (BR (i+1) r)=if k%32=31∧i<=k/32 then Ie ((a::r).getD (k/32-i) .any) else ga:=by
   intro R;rw[U]
   by_cases j:k%32=31
   ·by_cases I:i<=k/32
    ·by_cases C:k/32=i
     ·rw[if_neg (by omega),if_pos ⟨j,I⟩,C,iB,gr,R]
     ·rw[if_pos ⟨j,by omega⟩,if_pos ⟨j,I⟩,show k/32-i=(k/32-(i+1))+1 by omega,dT]
    ·rw[if_neg (by omega),if_neg (by omega)]
   ·rw[if_neg (by omega),if_neg (by omega)]
  have p:∀ sz els,Ie a=cI ⟨sz,els⟩->AK k ((AD i,⟨sz,els⟩)::BR (i+1) r)=if k%32=31∧i<=k/32 then Ie ((a::r).getD (k/32-i) .any) else ga:=by
   intro sz els R;rw[step]
   by_cases e:k%32=31∧i<=k/32
   ·rw[if_pos e,if_pos e]
    by_cases C:k/32=i
    ·rw[if_pos C,C,iB,gr,R]
    ·rw[if_neg C]
   ·rw[if_neg e,if_neg e]
  cases a
  case fresh sz els=>exact p sz els rfl
  case mem sz els _=>exact p sz els rfl
  all_goals exact skip rfl
theorem Gw{args:List AV}{j:Nat}:AK (AD j) (BR 0 args)=Ie (args.getD j .any):=by
 rw[TK,if_pos (by unfold AD;omega)]
 congr 2
 unfold AD;omega
theorem Nh{args:List AV}{k:Nat}{h:Hm}(p:AK k (BR 0 args)=cI h):∃ j,k=AD j∧Ie (args.getD j .any)=cI h:=by
 rw[TK] at p;split at p
 ·rename_i e;exact⟨k/32,by unfold AD;omega,by simpa using p⟩
 ·cases p
def ZM(j:Nat):AV->AV
 | .fresh _ _=>.own (AD j)
 | .mem _ _ i=>.ref (AD j) i 0
 | a=>a
theorem Lv:∀ (args:List AV) (i j:Nat),j<args.length->(Mi i args).getD j .any=ZM (i+j) (args.getD j .any)
 | [],_,_,h=>by simp at h
 | a::r,i,0,_=>by cases a<;>rfl
 | a::r,i,j+1,h=>by
  have p:=Lv r (i+1) j (by simpa using h);rw[show i+(j+1)=i+1+j by omega,dT,← p];cases a<;>rfl
theorem Kl:∀ (args:List AV) (i:Nat),(Mi i args).length=args.length
 | [],_=>rfl
 | a::r,i=>by
  have j:=Kl r (i+1);cases a<;>simp[Mi,j]
open Go Go.RowKit
def kk(p:List AV)(j:Nat):Nat:=(p.getD j .any).key1.headD 0
def Lf(g:Gh)(j:List AV):Gh:=⟨fun k=>g.β (kk j (k/32)),fun k=>g.cap (kk j (k/32))⟩
theorem UM(j:Nat):AD j/32=j:=by unfold AD;omega
theorem Hr(ob:Cp):∀ (ms:List Md) (p:List AV) (j:Nat),ms.length=p.length->j<p.length->(Bc ob ms p).getD j .any=EZ ob (ms.getD j .bor) (p.getD j .any)
 | [],[],_,_,h=>by simp at h
 | [],_::_,_,h,_=>by simp at h
 | _::_,[],_,h,_=>by simp at h
 | m::ms,a::p,0,_,_=>by simp[Bc]
 | m::ms,a::p,j+1,h,C=>by
  simp only[Bc,dT];exact Hr ob ms p j (by simpa using h) (by simpa using C)
theorem LZ(ob:Cp):∀ (ms:List Md) (j:List AV),ms.length=j.length->(Bc ob ms j).length=j.length
 | [],[],_=>rfl
 | [],_::_,h=>by simp at h
 | _::_,[],h=>by simp at h
 | m::ms,a::j,h=>by simp[Bc,LZ ob ms j (by simpa using h)]
theorem Pe:∀ (ms:List Md) (p:List AV),Fh ms p=bI->ms.length=p.length∧∀ j,j<p.length ->
  (ms.getD j .bor = .bor->Hk (p.getD j .any)=bX)∧(ms.getD j .bor = .io->Hk (p.getD j .any)=bI)∧(ms.getD j .bor = .mov->Hk (p.getD j .any)=bI∨ZD (p.getD j .any)=bI)
 | [],[],_=>⟨rfl,fun j C=>by simp at C⟩
 | [],_::_,h=>by simp[Fh] at h
 | m::_,[],h=>by cases m<;>simp[Fh] at h
 | m::ms,a::p,h=>by
  have key:Fh ms p=bI∧((m = .bor->Hk a=bX)∧(m = .io->Hk a=bI)∧(m = .mov->Hk a=bI∨ZD a=bI)):=by
   cases m<;>simp only[Fh,h9,e5,cA] at h<;>refine⟨h.2,?_⟩<;>simp[h.1]
  obtain⟨R,h2⟩:=key;obtain⟨J,I⟩:=Pe ms p R;refine⟨by simp[J],fun j C=>?_⟩;cases j with
  | zero=>simpa using h2
  | succ j=>simpa using I j (by simpa using C)
theorem Lu:∀ (ms:List Md) (p:List AV) (j:Nat),ms.length=p.length->j<p.length->ms.getD j .bor ≠ .bor->∀ k,k∈(p.getD j .any).key1->k∈Bd ms p
 | [],[],_,_,h,_,_,_=>by simp at h
 | [],_::_,_,h,_,_,_,_=>by simp at h
 | _::_,[],_,h,_,_,_,_=>by simp at h
 | m::ms,a::p,0,_,_,hm,k,C=>by
  cases m<;>simp at hm<;>simp only[Bd,bS]<;>exact .inl (by simpa using C)
 | m::ms,a::p,j+1,h,I,hm,k,C=>by
  have:=Lu ms p j (by simpa using h) (by simpa using I) (by simpa using hm) k (by simpa using C);cases m<;>simp only[Bd,bS]<;>first|exact this|exact .inr this
theorem XH:∀ (ms:List Md) (p:List AV) (j:Nat),ms.length=p.length->j<p.length->ms.getD j .bor = .bor->∀ k,k∈(p.getD j .any).keys->k∈FJ ms p
 | [],[],_,_,h,_,_,_=>by simp at h
 | [],_::_,_,h,_,_,_,_=>by simp at h
 | _::_,[],_,h,_,_,_,_=>by simp at h
 | m::ms,a::p,0,_,_,hm,k,C=>by
  cases m<;>simp at hm
  simp only[FJ,bS];exact .inl (by simpa using C)
 | m::ms,a::p,j+1,h,I,hm,k,C=>by
  have:=XH ms p j (by simpa using h) (by simpa using I) (by simpa using hm) k (by simpa using C);cases m<;>simp only[FJ,bS]<;>first|exact this|exact .inr this
theorem cR{k:Nat}{r:List Nat}(h:Eb (k::r)=bI):k ∉ r∧Eb r=bI:=by
 simp only[Eb,h9,cA,j4,beq_iff_eq] at h;exact⟨fun j=>h.1 k j rfl,h.2⟩
theorem JB{l r:List Nat}(h:Eb (l++r)=bI):Eb r=bI∧∀ k,k∈l->k ∉ r:=by
 induction l with
 | nil=>exact⟨h,fun k j=>by simp at j⟩
 | cons a l p=>
  obtain⟨J,h2⟩:=cR h;obtain⟨I,C⟩:=p h2;refine⟨I,fun k j=>?_⟩;rcases ec.1 j with e|j
  ·rw[e];exact fun c=>J (bS.2 (.inr c))
  ·exact C k j
theorem WD:∀ (ms:List Md) (p:List AV) (i j:Nat),ms.length=p.length->Eb (Bd ms p)=bI->i<j->j<p.length->ms.getD i .bor ≠ .bor->ms.getD j .bor ≠ .bor->∀ k,k∈(p.getD i .any).key1->k∈(p.getD j .any).key1->False
 | [],[],_,_,_,_,_,h,_,_,_,_,_=>by simp at h
 | [],_::_,_,_,h,_,_,_,_,_,_,_,_=>by simp at h
 | _::_,[],_,_,h,_,_,_,_,_,_,_,_=>by simp at h
 | m::ms,a::p,0,j+1,J,hd,_,R,hi,C,k,U,h2=>by
  have h3:=Lu ms p j (by simpa using J) (by simpa using R) (by simpa using C) k (by simpa using h2);have I:Eb (a.key1++Bd ms p)=bI:=by cases m<;>simp at hi<;>simpa[Bd] using hd
  exact (JB I).2 k (by simpa using U) h3
 | m::ms,a::p,i+1,j+1,J,hd,aa,R,hi,C,k,U,h2=>by
  have I:Eb (Bd ms p)=bI:=by
   cases m
   ·simpa[Bd] using hd
   ·exact (JB (by simpa[Bd] using hd)).1
   ·exact (JB (by simpa[Bd] using hd)).1
  exact WD ms p i j (by simpa using J) I (by omega) (by simpa using R) (by simpa using hi) (by simpa using C) k (by simpa using U) (by simpa using h2)
 | _::_,_::_,0,0,_,_,h,_,_,_,_,_,_=>by omega
 | _::_,_::_,_+1,0,_,_,h,_,_,_,_,_,_=>by omega
theorem aC{ks j:List Nat}(h:apart ks j=bI){k:Nat}(p:k∈ks)(h2:k∈j):False:=by
 simp only[apart,bR,cA,j4,beq_iff_eq] at h;exact h k p k h2 rfl
theorem Xs{ob:Cp}{m:Md}{a:AV}{hm:Hm}(h:Ie (EZ ob m a)=cI hm)(I:m = .bor->Hk (EZ ob m a)=bX):
  m ≠ .bor∧∃ k,(a = .own k∧EZ ob m a = .fresh hm.sz hm.els∨∃ i,a = .ref k i 0∧EZ ob m a = .mem hm.sz hm.els i)∧AK k ob=cI hm∧k∈a.key1:=by
 have C:m ≠ .bor:=by
  intro e;have J:=I e;revert h J;generalize EZ ob m a=x;intro h J;cases x<;>simp[Ie,Hk] at h J
 refine⟨C,?_⟩;have hio:EZ ob m a=LA ob a:=by cases m<;>first|exact absurd rfl C|rfl
 rw[hio] at h ⊢;cases a
 case own k=>
  simp only[LA] at h ⊢;cases j:AK k ob with
  | none=>rw[j] at h;simp[TR,Ie] at h
  | some R=>
   rw[j] at h;simp only[TR,Ie,fA] at h;exact⟨k,.inl ⟨rfl,by simp[TR,← h]⟩,by rw[j,← h],by simp[AV.key1]⟩
 case ref k i off=>
  rcases kB off with p|p
  ·subst p;simp only[LA] at h ⊢;cases j:AK k ob with
   | none=>rw[j] at h;simp[nM,Ie] at h
   | some R=>
    rw[j] at h;simp only[nM,Ie,fA] at h;subst h;exact⟨k,.inr ⟨i,rfl,by simp[nM]⟩,j,by simp[AV.key1]⟩
  ·obtain⟨n,rfl⟩:∃ n,off=n+1:=⟨off-1,by omega⟩;simp[LA,Ie] at h
 all_goals simp[LA,Ie] at h
section
variable {F Iow:Nat->Prop}{w0:cS}{g0:Gh}{o0:Cp}{g:Gh}{w w':cS}{tmps:Array Value}{ds:List hE}{vm ss ss':List Nat}{s:St}{P:e8}{o:iS}{key:Nat}
theorem FR.dv1(h:FR F g w tmps vm ss s){S':Nat->Prop}(R:∀ b,S' b->AS F g s.ob b){v:Value}{a:AV}(U:∀ k,k∈a.key1->∀ b,S' b->0<g.cap k->KY s.ob k->b≠g.β k)(J:Oh (AS F g s.ob) w g s.ob v a):VR S' w v (a.dv1 s.ob):=by
 cases a
 case own k=>
  obtain⟨hm,p,e⟩:=J;simp only[AV.dv1,p,vH];rcases e with e|⟨hz,e⟩
  ·rw[e];exact (h.sl_of p fun b I=>⟨R b I,fun C=>U k (by simp[AV.key1]) b I C ⟨hm,p⟩⟩).1
  ·rw[e,h.nil_els p hz];exact .sl 0 0 (fun _ _=>hN) rfl (j8 _) (h.home k hm p).pos (fun C=>by simp at C) (fun i hi=>by simp at hi) (fun i j hi _=>by simp at hi) (fun i j hi _=>by simp at hi)
 case ref k i off=>
  obtain⟨hm,p,hi,e⟩:=J;simp only[AV.dv1,p,jy];rw[e];exact (h.sl_of p fun b I=>⟨R b I,fun C=>U k (by simp[AV.key1]) b I C ⟨hm,p⟩⟩).2 i off hi |>.narrow
 case ptr sz els i off=>exact (VR.mono (dX _ _) (fun b _ c=>R b c) J:VR S' w v (.ptr sz els i off)).narrow
 case fresh=>exact .any
 case mem=>exact .any
 case opt=>exact .any
 case any=>exact .any
 all_goals exact VR.mono (dX _ _) (fun b _ c=>R b c) J
theorem FR.dv(h:FR F g w tmps vm ss s){S':Nat->Prop}(C:∀ b,S' b->AS F g s.ob b){v:Value}{a:AV}(J:∀ k,k∈a.keys->∀ b,S' b->0<g.cap k->KY s.ob k->b≠g.β k)(U:SR (AS F g s.ob) w g s.ob v a):VR S' w v (a.dv s.ob):=by
 have hl:∀ (l:List AV) j,(l.map (AV.dv1 s.ob)).getD j .any=(l.getD j .any).dv1 s.ob:=fun l j=>Bv _ rfl l j
 cases a
 case fn f a1 a2=>
  obtain⟨v1,v2,rfl,n1,n2,h1,h2⟩:=U;refine .fn (by simpa using n1) (by simpa using n2) (fun j R=>?_) (fun j R=>?_)
  ·rw[hl];exact h.dv1 C (fun k p=>J k (by simp only[AV.keys,hO,bS];exact .inl (DL (by simpa using R) p))) (h1 j (by simpa using R))
  ·rw[hl];exact h.dv1 C (fun k p=>J k (by simp only[AV.keys,hO,bS];exact .inr (DL (by simpa using R) p))) (h2 j (by simpa using R))
 case own k=>exact h.dv1 (a:=.own k) C (fun I p=>J I p) U
 case ref k i off=>exact h.dv1 (a:=.ref k i off) C (fun I p=>J I p) U
 case ptr sz els i off=>exact h.dv1 (a:=.ptr sz els i off) C (fun I p=>J I p) U
 case tup=>exact .any
 case fresh=>exact .any
 case mem=>exact .any
 case opt=>exact .any
 case any=>exact .any
 all_goals exact VR.mono (dX _ _) (fun b _ c=>C b c) U
theorem FR.args(h:FR F g w tmps vm ss s){av:Array Value}{p:List AV}{ms:List Md}(b9:av.size=p.length)(hv:∀ j,j<p.length->SR (AS F g s.ob) w g s.ob (av.getD j hN) (p.getD j .any))
  (hd:Eb (Bd ms p)=bI) (cl:apart (Bd ms p) (FJ ms p)=bI) (C:ms.length=p.length) (ca:Fh ms (Bc s.ob ms p)=bI)
  {Fc:Nat->Prop} (a7:∀ b,Fc b->AS F g s.ob b∧∀ k,(k∈Bd ms p∨k∈FJ ms p)->Ma g s.ob k->g.β k≠b) :
  FR Fc (Lf g p) w av (fI p.length) [] (Np (Bc s.ob ms p)):=by
 obtain⟨_,be⟩:=Pe _ _ ca;have a6:=LZ s.ob ms p C;rw[a6] at be
 have blk:∀ k hm,AK k (BR 0 (Bc s.ob ms p))=cI hm->∃ j I,k=AD j∧j<p.length∧ms.getD j .bor ≠ .bor∧AK I s.ob=cI hm∧I∈(p.getD j .any).key1∧kk p j=I∧I∈Bd ms p:=by
  intro k hm hg;obtain⟨j,rfl,hf⟩:=Nh hg
  have hj:j<p.length:=by
   rcases hA j p.length with h' | h'
   ·exact h'
   ·rw[k7,hD (by rw[a6];exact h')] at hf;simp[Ie] at hf
  rw[Hr _ _ _ _ C hj] at hf;have hs:=be j hj;rw[Hr _ _ _ _ C hj] at hs;obtain⟨h1,I,h2,h3,h4⟩:=Xs hf (fun e=>hs.1 e);refine⟨j,I,rfl,hj,h1,h3,h4,?_,Lu ms p j C hj h1 I h4⟩;unfold kk;rcases h2 with⟨e,_⟩|⟨_,e,_⟩<;>rw[e]<;>rfl
 have gk:∀ j,(Lf g p).β (AD j)=g.β (kk p j)∧(Lf g p).cap (AD j)=g.cap (kk p j):=fun j=>by
  simp[Lf,UM]
 have sub:∀ b,AS Fc (Lf g p) (BR 0 (Bc s.ob ms p)) b->AS F g s.ob b:=by
  intro b hb;rcases hb with hb|⟨k,⟨⟨hm,hg⟩,hp⟩,e⟩
  ·exact (a7 b hb).1
  ·obtain⟨j,I,rfl,hj,_,J,_,ek,_⟩:=blk k hm hg;rw[(gk j).1,ek] at e;rw[(gk j).2,ek] at hp;exact .inr ⟨I,⟨⟨hm,J⟩,hp⟩,e⟩
 have ct:∀ k,k∈FJ ms p->∀ b,AS Fc (Lf g p) (BR 0 (Bc s.ob ms p)) b->0<g.cap k->KY s.ob k->b≠g.β k:=by
  intro k hk b hb hp a5 e;rcases hb with hb|⟨k',⟨⟨hm,hg⟩,ay⟩,e'⟩
  ·exact (a7 b hb).2 k (.inr hk) ⟨a5,hp⟩ e.symm
  ·obtain⟨j,I,rfl,hj,_,J,_,ek,hio⟩:=blk k' hm hg;rw[(gk j).1,ek] at e';rw[(gk j).2,ek] at ay;have:=h.inj I k ⟨⟨hm,J⟩,ay⟩ ⟨a5,hp⟩ (by rw[e',e]);subst this;exact aC cl hio hk
 refine⟨fun k hm hg=>?_,fun k k' hk cc e=>?_,fun k hk=>?_,fun b hb=>h.setLt (a7 b hb).1,?_,rfl,fun j hj=>?_,fun j hj=>by simp at hj,fun t ht=>?_,h.tab.mono (dX _ _) fun b _ c=>sub b c⟩
 ·obtain⟨j,I,rfl,hj,_,J,_,ek,_⟩:=blk k hm hg;rw[(gk j).1,(gk j).2,ek];exact (h.home I hm J).mono (dX _ _) (fun _=>rfl) fun b _ c=>sub b c
 ·obtain⟨⟨hm,hg⟩,hp⟩:=hk;obtain⟨⟨a4,cd⟩,ay⟩:=cc;obtain⟨j,I,rfl,hj,bv,J,a2,ek,_⟩:=blk k hm hg;obtain⟨j',b7,rfl,U,a9,cb,a1,b4,_⟩:=blk k' a4 cd;rw[(gk j).1,(gk j').1,ek,b4] at e;rw[(gk j).2,ek] at hp;rw[(gk j').2,b4] at ay;have:=h.inj I b7 ⟨⟨hm,J⟩,hp⟩ ⟨⟨a4,cb⟩,ay⟩ e;subst this
  congr 1
  rcases Nat.lt_trichotomy j j' with bs|heq|bs
  ·exact (WD ms p j j' C hd bs U bv a9 I a2 a1).elim
  ·exact heq
  ·exact (WD ms p j' j C hd bs hj a9 bv I a1 a2).elim
 ·obtain⟨⟨hm,hg⟩,hp⟩:=hk;obtain⟨j,I,rfl,hj,bv,J,a2,ek,hio⟩:=blk k hm hg;rw[(gk j).1,ek];rw[(gk j).2,ek] at hp;exact fun hf=>(a7 _ hf).2 I (.inl hio) ⟨⟨hm,J⟩,hp⟩ rfl
 ·simp[Np,Kl,a6]
 ·have U:j<p.length:=by simpa using hj
  have e1:(fI p.length).getD j 0=j:=by rw[k7,List.getElem?_range U];rfl
  rw[e1];simp only[Np];rw[Lv _ 0 j (by rw[a6];exact U),ke];have hs:=be j U;have ac:=hv j U;have bb:=Hr s.ob ms p j C U;rw[bb] at hs ⊢
  by_cases hb:ms.getD j .bor = .bor
  ·have bo:=hs.1 hb
   have e2:ZM j (EZ s.ob (ms.getD j .bor) (p.getD j .any))=EZ s.ob (ms.getD j .bor) (p.getD j .any):=by
    revert bo;generalize EZ s.ob (ms.getD j .bor) (p.getD j .any)=x;intro bo;cases x<;>first|rfl|(simp[Hk] at bo)
   rw[e2,hb];refine VR.toSR (h.dv sub (fun k hk b cf hp a5=>ct k (XH ms p j C U hb k hk) b cf hp a5) ac)
  ·cases hf:Ie (EZ s.ob (ms.getD j .bor) (p.getD j .any)) with
   | some hm=>
    obtain⟨_,I,h2,h3,h4⟩:=Xs hf (fun e=>absurd e hb);have b2:AK (AD j) (BR 0 (Bc s.ob ms p))=cI hm:=by rw[Gw,bb,hf]
    rcases h2 with⟨e,e2⟩|⟨i,e,e2⟩
    ·rw[e2];rw[e] at ac;obtain⟨a4,J,ax⟩:=ac;rw[h3] at J;cases J;have ek:kk p j=I:=by unfold kk;rw[e];rfl
     exact⟨hm,b2,by rw[(gk j).1,(gk j).2,ek];exact ax⟩
    ·rw[e2];rw[e] at ac;obtain⟨a4,J,hi,ax⟩:=ac;rw[h3] at J;cases J;have ek:kk p j=I:=by unfold kk;rw[e];rfl
     exact⟨hm,b2,hi,by rw[(gk j).1,ek];exact ax⟩
   | none=>
    have a0:ZD (EZ s.ob (ms.getD j .bor) (p.getD j .any))=bI:=by
     cases R:ms.getD j .bor with
     | bor=>exact absurd R hb
     | io=>
      have:=hs.2.1 R;revert this hf;rw[R];generalize EZ s.ob .io (p.getD j .any)=x;intro hf this;cases x<;>simp[Hk,Ie] at this hf
     | mov=>
      rcases hs.2.2 R with this|this
      ·revert this hf;rw[R];generalize EZ s.ob .mov (p.getD j .any)=x;intro hf this;cases x<;>simp[Hk,Ie] at this hf
      ·rw[R] at this;exact this
    have hx:EZ s.ob (ms.getD j .bor) (p.getD j .any) = .nilsl:=by
     revert a0;generalize EZ s.ob (ms.getD j .bor) (p.getD j .any)=x;intro a0;cases x<;>simp[ZD] at a0
     rfl
    have ha:p.getD j .any = .nilsl:=by
     have hio:EZ s.ob (ms.getD j .bor) (p.getD j .any)=LA s.ob (p.getD j .any):=by
      cases R:ms.getD j .bor<;>first|exact absurd R hb|rfl
     rw[hio] at hx;revert hx;generalize p.getD j .any=x;intro hx;cases x
     case own k=>simp only[LA] at hx;cases J:AK k s.ob<;>rw[J] at hx<;>simp[TR] at hx
     case ref k i off=>
      rcases kB off with b3|b3
      ·subst b3;simp only[LA] at hx;revert hx;generalize AK k s.ob=y;intro hx;cases y<;>simp[nM] at hx
      ·obtain⟨n,rfl⟩:∃ n,off=n+1:=⟨off-1,by omega⟩;simp[LA] at hx
     case nilsl=>rfl
     all_goals simp[LA] at hx
    rw[hx];rw[ha] at ac;have:=Sq ac;rw[this];exact VR.toSR .nilsl
 ·rcases ht with ht|ht
  ·rw[b9];simpa using ht
  ·simp at ht
end
theorem DD.mono{P:e8}{f:l0}{args:Array Value}{w:cS}{R p:Ending->cS->Prop}(h:DD P f args w R)(j:∀ e w',R e w'->p e w'):DD P f args w p:=by
 unfold DD at h ⊢;split at h
 ·exact j _ _ h
 ·exact Calls.mono h j
 ·exact h.elim
structure MY(S:Nat->Prop)(pend:Nat->Prop)(g:Gh)(w:cS)(tmps:Array Value)(vm ss:List Nat)(s:St):Prop where
 home:∀ k h,¬ pend k->AK k s.ob=cI h->IK S w (g.β k) (g.cap k) h.sz h.els
 vl:s.vs.length=vm.length
 sl:s.st.length=ss.length
 vs:∀ i,i<vm.length->SR S w g s.ob (tmps.getD (vm.getD i 0) hN) (s.vs.getD i .any)
 st:∀ i,i<ss.length->SR S w g s.ob (tmps.getD (ss.getD i 0) hN) (s.st.getD i .any)
 fit:∀ t,t∈vm∨t∈ss->t<tmps.size
def IM:List Md->List AV->List Nat
 | .mov::ms,a::j=>a.key1++IM ms j
 | .bor::ms,_::j=>IM ms j
 | .io::ms,_::j=>IM ms j
 | _,_=>[]
section
variable {S:Nat->Prop}{pend:Nat->Prop}{F Iow:Nat->Prop}{w0:cS}{g0:Gh}{o0:Cp}{g:Gh}{w w':cS}{tmps:Array Value}{ds:List hE}{vm ss ss':List Nat}{s:St}{P:e8}{o:iS}{key:Nat}
theorem MY.forget(h:MY S pend g w tmps vm ss s){ob':Cp}(φ:AV->AV)(j:φ .any = .any)(p:∀ k hm,AK k ob'=cI hm->AK k s.ob=cI hm)
  (J:∀ a,φ a = .any∨(φ a=a∧∀ k,k∈a.keys->∀ hm,AK k s.ob=cI hm->AK k ob'=cI hm)) (ok:Bool) :
  MY S pend g w tmps vm ss { vs:=s.vs.map φ,st:=s.st.map φ,ob:=ob',ok:=ok }:=by
 have one:∀ {v a},SR S w g s.ob v a->SR S w g ob' v (φ a):=by
  intro v a R;rcases J a with e|⟨e,I⟩
  ·rw[e];exact SR.any
  ·rw[e];exact R.mono (dX _ _) (fun _ _ c=>c) fun k C hm hg=>⟨hm,I k C hm hg,rfl,rfl,rfl,rfl⟩
 exact⟨fun k hm U I=>h.home k hm U (p k hm I),by simpa using h.vl,by simpa using h.sl,fun i hi=>by rw[Bv φ j];exact one (h.vs i hi),fun i hi=>by rw[Bv φ j];exact one (h.st i hi),h.fit⟩
theorem MY.killAll(h:MY S pend g w tmps vm ss s)(k:Nat):MY S pend g w tmps vm ss (l8 s k):=by
 refine h.forget (AV.kill k) (kX k) (fun j hm p=>?_) (fun a=>?_) s.ok
 ·rw[Dv] at p;split at p
  ·cases p
  ·exact p
 ·rcases Yy k a with e|⟨e,C⟩
  ·exact .inl e
  ·refine .inr ⟨e,fun j I hm J=>?_⟩;rw[Dv,if_neg (fun e:k=j=>C (by rw[e];exact I))];exact J
theorem MY.clear(h:MY S pend g w tmps vm ss s)(d:Nat):MY S pend g w tmps vm ss (clear s d):=by
 unfold Go.Proofs.YtegmpdmpgmpiaaaGreatDoor.clear;rw[AM];split
 ·refine h.forget (Zm d) (by simp[Zm,AV.keys]) (fun k hm j=>?_) (fun a=>?_) s.ok
  ·rw[Hi] at j;split at j
   ·cases j
   ·exact j
  ·by_cases p:a.keys.any (fun k=>k/32==d)=bI
   ·exact .inl (by simp only[Zm,AM];rw[if_pos p])
   ·refine .inr ⟨by simp only[Zm,AM];rw[if_neg p],fun k j hm C=>?_⟩;rw[Hi,if_neg (fun e=>p (gj.2 ⟨k,j,by simp[e]⟩))];exact C
 ·exact h
theorem MY.setIo(h:MY S pend g w tmps vm ss s){k:Nat}{hm h2:Hm}(R:AK k s.ob=cI hm)(C:h2.sz=hm.sz)(J:h2.els.length=hm.els.length)(U:IK S w (g.β k) (g.cap k) h2.sz h2.els):
  MY S (fun j=>pend j∧j≠k) g w tmps vm ss { s with ob:=DA k h2 s.ob }:=by
 have key:∀ j,Sg g g s.ob (DA k h2 s.ob) j:=fun j=>Sg.set R J C j
 refine⟨fun j h' I p=>?_,h.vl,h.sl,fun i hi=>(h.vs i hi).mono (dX _ _) (fun _ _ c=>c) fun j _=>key j,fun i hi=>(h.st i hi).mono (dX _ _) (fun _ _ c=>c) fun j _=>key j,h.fit⟩;simp only[BN] at p
 by_cases e:k=j
 ·subst e;rw[if_pos rfl] at p;cases p;exact U
 ·rw[if_neg e] at p;exact h.home j h' (fun c=>I ⟨c,Ne.symm e⟩) p
theorem MY.pend'(h:MY S pend g w tmps vm ss s){j:Nat->Prop}(C:∀ k,KY s.ob k->pend k->j k):MY S j g w tmps vm ss s :=
 ⟨fun k hm I p=>h.home k hm (fun c=>I (C k ⟨hm,p⟩ c)) p,h.vl,h.sl,h.vs,h.st,h.fit⟩
def bD(S:Nat->Prop)(g:Gh)(w:cS)(ob:Cp)(ms:List Md)(p os:List AV):Prop :=
 ∀ j,j<p.length->ms.getD j .bor = .io->∃ k hm sz els,((p.getD j .any = .own k∧os.getD j .any = .fresh sz els)∨(∃ i i',p.getD j .any = .ref k i 0∧os.getD j .any = .mem sz els i')) ∧
  AK k ob=cI hm∧sz=hm.sz∧els.length=hm.els.length∧IK S w (g.β k) (g.cap k) sz els
theorem bD.tail{ob ob':Cp}{m:Md}{a q:AV}{ms:List Md}{p os:List AV}(hI:bD S g w ob (m::ms) (a::p) (q::os))(R:ms.length=p.length)
  (U:∀ k,k∈Bd ms p->∀ hm,AK k ob=cI hm->AK k ob'=cI hm):bD S g w ob' ms p os:=by
 intro j I hm;obtain⟨k,J,sz,els,C,h2,h3⟩:=hI (j+1) (by simpa using I) (by simpa using hm);simp only[dT] at C;refine⟨k,J,sz,els,C,U k (Lu ms p j R I (by rw[hm];decide) k ?_) J h2,h3⟩;rcases C with⟨e,_⟩|⟨_,_,e,_⟩<;>rw[e]<;>simp[AV.key1]
theorem MN:∀ (ms:List Md) (C os:List AV) {s:St} {pend:Nat->Prop},MY S pend g w tmps vm ss s->ms.length=C.length->bD S g w s.ob ms C os->Eb (Bd ms C)=bI->(Ag s ms C os).ok=bI ->
  MY S (fun k=>pend k∧k ∉ Bd ms C) g w tmps vm ss (Ag s ms C os)∧s.ok=bI ∧
  (∀ k I,AK k (Ag s ms C os).ob=cI I->k ∉ IM ms C∧∃ h0,AK k s.ob=cI h0∧I.sz=h0.sz∧I.els.length=h0.els.length)
 | [],[],os,s,pend,h,_,_,_,p=>by
  cases os with
  | nil=>simp only[Ag] at p ⊢;exact⟨by simpa[Bd] using h,p,fun k I U=>⟨by simp[IM],I,U,rfl,rfl⟩⟩
  | cons q os=>simp[Ag,fail] at p
 | [],_::_,_,_,_,_,hl,_,_,_=>by simp at hl
 | _::_,[],_,_,_,_,hl,_,_,_=>by simp at hl
 | m::ms,a::C,[],s,pend,h,_,_,_,p=>by cases m<;>cases a<;>simp[Ag,fail] at p
 | .bor::ms,a::C,q::os,s,pend,h,hl,hI,hd,p=>by
  simp only[Ag] at p ⊢;exact MN ms C os h (by simpa using hl) (hI.tail (by simpa using hl) fun _ _ _ c=>c) (by simpa[Bd] using hd) p
 | .io::ms,a::C,q::os,s,pend,h,hl,hI,hd,p=>by
  have R:ms.length=C.length:=by simpa using hl
  obtain⟨k,h0,sz,els,h1,h2,h3,h4,h5⟩:=hI 0 (by simp) rfl;simp only[gr] at h1;have ae:a.key1=[k]:=by rcases h1 with⟨e,_⟩|⟨_,_,e,_⟩<;>rw[e]<;>rfl
  have ad:Eb (a.key1++Bd ms C)=bI:=by simpa[Bd] using hd
  rw[ae] at ad;obtain⟨ac,ao⟩:=JB ad
  have aj:Ag s (.io::ms) (a::C) (q::os)=Ag { s with ob:=DA k ⟨sz,els⟩ s.ob } ms C os:=by
   rcases h1 with⟨e1,J⟩|⟨_,_,e1,J⟩<;>subst e1<;>subst J<;>rfl
  rw[aj] at p ⊢;have a0:=h.setIo (h2:=⟨sz,els⟩) h2 h3 h4 h5
  obtain⟨r1,r2,r3⟩:=MN ms C os a0 R (hI.tail R fun j hj hm U=>by
   have:k≠j:=fun e=>ao k (by simp) (e▸hj)
   rw[BN,if_neg this];exact U) ac p
  refine⟨r1.pend' fun j _ hp=>⟨hp.1.1,?_⟩,r2,fun j I U=>?_⟩
  ·simp only[Bd,ae,bS,j0];rintro (e|e)
   ·exact hp.1.2 e
   ·exact hp.2 e
  ·obtain⟨e0,e1,J,e3,e4⟩:=r3 j I U;refine⟨by simpa[IM] using e0,?_⟩;simp only[BN] at J
   by_cases e:k=j
   ·subst e;rw[if_pos rfl] at J;cases J;exact⟨h0,h2,by rw[e3,h3],by rw[e4,h4]⟩
   ·rw[if_neg e] at J;exact⟨e1,J,e3,e4⟩
 | .mov::ms,a::C,q::os,s,pend,h,hl,hI,hd,p=>by
  have R:ms.length=C.length:=by simpa using hl
  have ad:Eb (a.key1++Bd ms C)=bI:=by simpa[Bd] using hd
  obtain⟨ac,ao⟩:=JB ad;cases a<;>simp only[Ag,fail] at p<;>try (cases p;done)
  case nilsl=>
   simp only[Ag] at p ⊢;obtain⟨r1,r2,r3⟩:=MN ms C os h R (hI.tail R fun _ _ _ c=>c) ac p;exact⟨by simpa[Bd,AV.key1] using r1,r2,by simpa[IM,AV.key1] using r3⟩
  case own k=>
   simp only[Ag] at p ⊢
   obtain⟨r1,r2,r3⟩:=MN ms C os (h.killAll k) R (hI.tail R fun j hj hm U=>by
    have:k≠j:=fun e=>ao k (by simp[AV.key1]) (e▸hj)
    simp only[Go.Proofs.YtegmpdmpgmpiaaaGreatDoor.killAll];rw[Dv,if_neg this];exact U) ac p
   have aa:∀ j I,AK j (Ag (Go.Proofs.YtegmpdmpgmpiaaaGreatDoor.killAll s k) ms C os).ob=cI I->j≠k:=fun j I U e=>by
    obtain⟨_,e1,J,_⟩:=r3 j I U;simp only[Go.Proofs.YtegmpdmpgmpiaaaGreatDoor.killAll] at J;rw[Dv,if_pos e.symm] at J;cases J
   refine⟨r1.pend' fun j ⟨I,U⟩ hp=>⟨hp.1,?_⟩,r2,fun j I U=>?_⟩
   ·simp only[Bd,AV.key1,bS,j0];rintro (e|e)
    ·exact aa j I U e
    ·exact hp.2 e
   ·obtain⟨e0,e1,J,e3,e4⟩:=r3 j I U;have a1:=aa j I U;refine⟨?_,e1,?_,e3,e4⟩
    ·simp only[IM,AV.key1,bS,j0];rintro (e|e)
     ·exact a1 e
     ·exact e0 e
    ·simp only[Go.Proofs.YtegmpdmpgmpiaaaGreatDoor.killAll] at J;rw[Dv,if_neg (Ne.symm a1)] at J;exact J
end
open Go Go.RowKit
def In(r:AV)(i:Nat):Bool :=
 match r with
 | .tup j=>decide (1<=i)&&(decide (i<=j.length)&&JH (j.getD (i-1) .any))
 | a=>decide (i=0)&&JH a
theorem eQ{r:AV}{i:Nat}:In r i=bI ↔ Jk r i:=by
 cases r<;>simp only[In,Jk,h9,l9]
 case tup R=>
  constructor
  ·rintro⟨J,h2,C⟩;exact⟨i-1,by omega,by omega,C⟩
  ·rintro⟨j,rfl,I,p⟩;exact⟨by omega,by omega,by simpa using p⟩
def JX(r:AV)(i:Nat):AV :=
 match r with
 | .tup j=>j.getD (i-1) .any
 | a=>a
theorem aG(k d:Nat):∀ (cs:List AV) (j:Nat) (ob:Cp),j+cs.length<=32 ->
  AK k (Fo ob (Lh d j cs))=if k/32=d∧j<=k%32∧k%32<j+cs.length∧JH (cs.getD (k%32-j) .any)=bI then Ie (cs.getD (k%32-j) .any) else AK k ob
 | [],j,ob,_=>by simp only[Lh,Fo,List.length_nil];rw[if_neg (by omega)]
 | a::r,j,ob,hl=>by
  simp only[l3] at hl ⊢;have ih:=fun ob=>aG k d r (j+1) ob (by omega)
  have skip:JH a=bX->AK k (Fo ob (Lh d (j+1) r))=if k/32=d∧j<=k%32∧k%32<j+(r.length+1)∧JH ((a::r).getD (k%32-j) .any)=bI then Ie ((a::r).getD (k%32-j) .any) else AK k ob:=by
   intro hf;rw[ih]
   by_cases e:k%32=j
   ·rw[if_neg (by omega),if_neg];rintro⟨_,_,_,h⟩;rw[e,iB,gr,hf] at h;cases h
   ·by_cases e2:j<=k%32
    ·have e3:k%32-j=(k%32-(j+1))+1:=by omega
     rw[e3,dT]
     by_cases p:k/32=d∧j+1<=k%32∧k%32<j+1+r.length∧JH (r.getD (k%32-(j+1)) .any)=bI
     ·rw[if_pos p,if_pos ⟨p.1,e2,by omega,p.2.2.2⟩]
     ·rw[if_neg p,if_neg];rintro⟨U,h2,h3,R⟩;exact p ⟨U,by omega,by omega,R⟩
    ·rw[if_neg (by omega),if_neg (by omega)]
  have put:∀ (sz:Nat) (els:List AV) (x:AV),JH x=bI->Ie x=cI ⟨sz,els⟩->Lh d j (x::r)=(Bh d+j,⟨sz,els⟩)::Lh d (j+1) r->AK k (Fo ob (Lh d j (x::r)))=if k/32=d∧j<=k%32∧k%32<j+(r.length+1)∧JH ((x::r).getD (k%32-j) .any)=bI then Ie ((x::r).getD (k%32-j) .any) else AK k ob:=by
   intro sz els x J I C;rw[C];simp only[Fo];rw[ih,BN]
   by_cases e:k%32=j
   ·rw[if_neg (by omega)]
    by_cases e1:k/32=d
    ·rw[if_pos (by unfold Bh;omega),if_pos ⟨e1,by omega,by omega,by rw[e,iB];exact J⟩,e,iB];exact I.symm
    ·rw[if_neg (by unfold Bh;omega),if_neg (by omega)]
   ·by_cases e2:j<=k%32
    ·have e3:k%32-j=(k%32-(j+1))+1:=by omega
     rw[e3,dT,if_neg (c:=Bh d+j=k) (by unfold Bh;omega)]
     by_cases p:k/32=d∧j+1<=k%32∧k%32<j+1+r.length∧JH (r.getD (k%32-(j+1)) .any)=bI
     ·rw[if_pos p,if_pos ⟨p.1,e2,by omega,p.2.2.2⟩]
     ·rw[if_neg p,if_neg];rintro⟨U,h2,h3,R⟩;exact p ⟨U,by omega,by omega,R⟩
    ·rw[if_neg (by omega),if_neg (c:=Bh d+j=k) (by unfold Bh;omega),if_neg (by omega)]
  cases a
  case fresh sz els=>exact put sz els _ rfl rfl rfl
  case mem sz els ix=>exact put sz els _ rfl rfl rfl
  all_goals exact skip rfl
theorem Rz{d:Nat}{r:AV}(j:(adopt d r).ok=bI)(k:Nat)(ob:Cp):AK k (Fo ob (adopt d r).hs)=if k/32=d∧In r (k%32)=bI then Ie (JX r (k%32)) else AK k ob:=by
 have ga:(adopt d r).hs=[]->(∀ i,In r i=bX)->AK k (Fo ob (adopt d r).hs)=if k/32=d∧In r (k%32)=bI then Ie (JX r (k%32)) else AK k ob:=by
  intro I p;rw[I,p];simp[Fo]
 cases r
 case tup cs=>
  simp only[adopt,l9] at j ⊢;rw[aG k d cs 1 ob (by omega)];simp only[In,JX,h9,l9]
  by_cases e:k/32=d∧1<=k%32∧k%32<1+cs.length∧JH (cs.getD (k%32-1) .any)=bI
  ·rw[if_pos e,if_pos ⟨e.1,e.2.1,by omega,e.2.2.2⟩]
  ·rw[if_neg e,if_neg];rintro⟨p,h2,J,C⟩;exact e ⟨p,h2,by omega,C⟩
 case fresh sz els=>
  simp only[adopt,Fo,BN,In,JX,JH,k5,l9,Ie]
  by_cases e:k/32=d∧k%32=0
  ·rw[if_pos e,if_pos (by unfold Bh;omega)]
  ·rw[if_neg e,if_neg (by unfold Bh;omega)]
 case fn f a b=>exact ga (by simp[adopt,Fp]) (fun i=>by simp[In,JH])
 case own=>simp[adopt,bad] at j
 case mem sz els ix=>
  simp only[adopt,Fo,BN,In,JX,JH,k5,l9,Ie]
  by_cases e:k/32=d∧k%32=0
  ·rw[if_pos e,if_pos (by unfold Bh;omega)]
  ·rw[if_neg e,if_neg (by unfold Bh;omega)]
 case ref=>simp[adopt,bad] at j
 case opt=>simp[adopt,bad] at j
 all_goals exact ga rfl (fun i=>by simp[In,JH])
theorem aE(d:Nat):∀ (cs:List AV) (j i:Nat),i<cs.length->(Nq d j cs).getD i .any=match cs.getD i .any with | .fresh _ _=>.own (Bh d+(j+i)) | .mem _ _ _=>.ref (Bh d+(j+i)) 0 0|x=>x
 | [],_,_,h=>by simp at h
 | a::r,j,0,_=>by cases a<;>rfl
 | a::r,j,i+1,h=>by
  have p:=aE d r (j+1) i (by simpa using h);rw[dT,show j+(i+1)=j+1+i by omega,← p];cases a<;>rfl
theorem TZ(d:Nat):∀ (cs:List AV) (j:Nat),(Nq d j cs).length=cs.length
 | [],_=>rfl
 | a::r,j=>by
  have p:=TZ d r (j+1);cases a<;>simp[Nq,p]
theorem VR.toSR1{S:Nat->Prop}{w:cS}{g:Gh}{ob:Cp}{v:Value}{a:AV}(h:VR S w v a):Oh S w g ob v a:=by
 cases a<;>first|exact h|(cases h)
theorem AIs{S pend:Nat->Prop}{g:Gh}{w:cS}{tmps:Array Value}{vm ss ss':List Nat}{s:St}(h:MY S pend g w tmps vm ss s)(ax:QM vm){dst:Option Nat}{D:Ji}(hd:Ew vm ss dst D=cI ss')
  (aj:∀ d,dst=cI d->d<tmps.size) {v:Value} {a:AV} (c:Bool) (hv:SR S w g s.ob v a):MY S pend g w (It tmps dst v) vm ss' (BE s c a D):=by
 cases dst with
 | none=>
  cases D<;>simp[Ew] at hd
  subst hd;exact⟨h.home,h.vl,h.sl,h.vs,h.st,h.fit⟩
 | some d=>
  have U:=aj d rfl;have ab:=hv;cases D with
  | no=>simp[Ew] at hd
  | push=>
   simp only[Ew] at hd;split at hd
   ·cases hd
   rename_i hn;simp only[fA] at hd;subst hd;have p:d ∉ vm:=fun c=>hn (.inl c)
   have J:d ∉ ss:=fun c=>hn (.inr c)
   refine⟨h.home,h.vl,by simpa[BE] using h.sl,fun i hi=>?_,fun i hi=>?_,fun t I=>?_⟩
   ·have j:d≠vm.getD i 0:=fun e=>p (by rw[e,k7,geE hi];exact e7 hi)
    simp only[It,Ea j];exact h.vs i hi
   ·cases i with
    | zero=>simp only[It,BE,gr,Ju U];exact ab
    | succ i=>
     have ac:i<ss.length:=by simpa using hi
     have j:d≠ss.getD i 0:=fun e=>J (by rw[e,k7,geE ac];exact e7 ac)
     simp only[It,BE,dT,Ea j];exact h.st i ac
   ·simp only[It,hY];rcases I with I|I
    ·exact h.fit t (.inl I)
    ·rcases ec.1 I with e|I
     ·exact e▸U
     ·exact h.fit t (.inr I)
  | slot n=>
   simp only[Ew] at hd;split at hd
   ·rename_i hn;simp only[fA] at hd;subst hd;obtain⟨p,J,ao⟩:=hn
    have R:n<ss.length:=by
     rcases hA n ss.length with h' | h'
     ·exact h'
     ·rw[hD h'] at p;cases p
    have aa:ss.getD n 0=d:=by rw[k7,p];rfl
    refine⟨h.home,h.vl,by simpa[BE] using h.sl,fun i hi=>?_,fun i hi=>?_,fun t I=>?_⟩
    ·have j:d≠vm.getD i 0:=fun e=>J (by rw[e,k7,geE hi];exact e7 hi)
     simp only[It,Ea j];exact h.vs i hi
    ·by_cases C:n=i
     ·subst C
      have:(s.st.set n a).getD n .any=a:=by
       rw[k7,k9 (by rw[h.sl];exact R)];rfl
      simp only[It,BE,aa,Ju U,this];exact ab
     ·have j:d≠ss.getD i 0:=by
       intro e;have h1:ss[n]? = ss[i]?:=by rw[p,e,k7,geE hi];rfl
       exact C ((List.getElem?_inj R ao).1 h1)
      have:(s.st.set n a).getD i .any=s.st.getD i .any:=by
       rw[k7,hG C,k7]
      simp only[It,BE,Ea j,this];exact h.st i hi
    ·simp only[It,hY];exact h.fit t I
   ·cases hd
  | var n=>
   simp only[Ew] at hd;split at hd
   ·rename_i hn;simp only[fA] at hd;subst hd;obtain⟨p,J,au⟩:=hn
    have R:n<vm.length:=by
     rcases hA n vm.length with h' | h'
     ·exact h'
     ·rw[hD h'] at p;cases p
    have aa:vm.getD n 0=d:=by rw[k7,p];rfl
    refine⟨h.home,by simpa[BE] using h.vl,h.sl,fun i hi=>?_,fun i hi=>?_,fun t I=>?_⟩
    ·by_cases C:n=i
     ·subst C
      have:(s.vs.set n a).getD n .any=a:=by
       rw[k7,k9 (by rw[h.vl];exact R)];rfl
      simp only[It,BE,aa,Ju U,this];exact ab
     ·have j:d≠vm.getD i 0:=XA p au hi C
      have:(s.vs.set n a).getD i .any=s.vs.getD i .any:=by
       rw[k7,hG C,k7]
      simp only[It,BE,Ea j,this];exact h.vs i hi
    ·have j:d≠ss.getD i 0:=fun e=>J (by rw[e,k7,geE hi];exact e7 hi)
     simp only[It,Ea j];exact h.st i hi
    ·simp only[It,hY];exact h.fit t I
   ·cases hd
section
variable {S:Nat->Prop}{pend:Nat->Prop}{F Iow:Nat->Prop}{w0:cS}{g0:Gh}{o0:Cp}{g:Gh}{w w':cS}{tmps:Array Value}{ds:List hE}{vm ss ss':List Nat}{s:St}{P:e8}{o:iS}{key:Nat}
def GC(g j:Gh)(κ:Nat->Nat)(key:Nat)(r:AV):Gh :=
 ⟨fun k=>if k/32=key∧In r (k%32)=bI then j.β (κ (k%32)) else g.β k,fun k=>if k/32=key∧In r (k%32)=bI then j.cap (κ (k%32)) else g.cap k⟩
theorem dq{d j:Nat}(p:j<32):(Bh d+j)/32=d∧(Bh d+j)%32=j:=by unfold Bh;omega
theorem RV.adopt{S':Nat->Prop}{gb:Gh}{ab ob:Cp}{κ:Nat->Nat}{v:Value}{r:AV}(hv:RV S' w gb ab κ v r)(hS:∀ b,S b->S' b)(I:(adopt key r).ok=bI):
  SR S w (GC g gb κ key r) (Fo ob (Go.Proofs.YtegmpdmpgmpiaaaGreatDoor.adopt key r).hs) v (Go.Proofs.YtegmpdmpgmpiaaaGreatDoor.adopt key r).v:=by
 have sub:∀ {u a},VR S' w u a->VR S w u a:=fun h=>h.mono (dX _ _) fun b _ c=>hS b c
 have U:∀ {i:Nat} {u:Value} {sz:Nat} {els:List AV},i<32->In r i=bI->JX r i = .fresh sz els->uf S' w gb ab (κ i) u (.fresh sz els) ->
   Oh S w (GC g gb κ key r) (Fo ob (Go.Proofs.YtegmpdmpgmpiaaaGreatDoor.adopt key r).hs) u (.own (Bh key+i)):=by
  intro i u sz els hi hf hp hu;obtain⟨h1,h2⟩:=dq (d:=key) hi;refine⟨⟨sz,els⟩,by rw[Rz I,h1,h2,if_pos ⟨rfl,hf⟩,hp];rfl,?_⟩;simp only[GC,h1,h2,hf,and_self,if_true];exact hu.2
 have aa:∀ {i:Nat} {u:Value} {sz:Nat} {els:List AV} {ix:Nat},i<32->In r i=bI->JX r i = .mem sz els ix->uf S' w gb ab (κ i) u (.mem sz els ix) ->
   Oh S w (GC g gb κ key r) (Fo ob (Go.Proofs.YtegmpdmpgmpiaaaGreatDoor.adopt key r).hs) u (.ref (Bh key+i) 0 0):=by
  intro i u sz els ix hi hf hp hu;obtain⟨h1,h2⟩:=dq (d:=key) hi;refine⟨⟨sz,els⟩,by rw[Rz I,h1,h2,if_pos ⟨rfl,hf⟩,hp];rfl,?_⟩;simp only[GC,h1,h2,hf,and_self,if_true];obtain⟨_,hl,e⟩:=hu;exact⟨by simp only[hl];omega,by rw[e,kb]⟩
 cases r
 case fresh sz els=>exact U (i:=0) (by omega) (by simp[In,JH]) rfl hv
 case mem sz els ix=>exact aa (i:=0) (by omega) (by simp[In,JH]) rfl hv
 case tup cs=>
  obtain⟨vs,rfl,hn,ao⟩:=hv;have a1:cs.length<31:=by simpa[Go.Proofs.YtegmpdmpgmpiaaaGreatDoor.adopt] using I
  refine⟨vs,rfl,by rw[TZ,hn],fun j hj=>?_⟩;rw[TZ] at hj;rw[aE key cs 1 j hj];have C:=ao j hj
  have R:JH (cs.getD j .any)=bI->In (.tup cs) (j+1)=true:=fun h=>by
   simp only[In,j2,h,k5,h9,l9];omega
  have p:JX (.tup cs) (j+1)=cs.getD j .any:=by simp[JX]
  split
  ·rename_i sz els he;rw[he] at C p R;rw[lb 1 j];exact U (i:=j+1) (by omega) (R rfl) p C
  ·rename_i sz els ix he;rw[he] at C p R;rw[lb 1 j];exact aa (i:=j+1) (by omega) (R rfl) p C
  ·rename_i ac J
   have:VR S' w (vs.getD j hN) (cs.getD j .any):=by
    revert C ac J;generalize cs.getD j .any=x;intro C ac J;cases x<;>first|exact C|exact absurd rfl (ac _ _)|exact absurd rfl (J _ _ _)
   exact (sub this).toSR1
 case fn f a b=>exact (sub hv).toSR
 case own=>simp[Go.Proofs.YtegmpdmpgmpiaaaGreatDoor.adopt,bad] at I
 case ref=>simp[Go.Proofs.YtegmpdmpgmpiaaaGreatDoor.adopt,bad] at I
 case opt=>simp[Go.Proofs.YtegmpdmpgmpiaaaGreatDoor.adopt,bad] at I
 all_goals exact (sub hv).toSR
theorem lY{d k:Nat}(j:k/32=d):¬ KY (clear s d).ob k:=by
 intro ⟨hm,hg⟩;unfold Go.Proofs.YtegmpdmpgmpiaaaGreatDoor.clear at hg;rw[AM] at hg;split at hg
 ·simp[Hi,j] at hg
 ·rename_i p;exact Pt (by simpa using p) hg j
theorem MY.adopt(h:MY S (fun _=>False) g w tmps vm ss s)(a1:QM vm){dst:Option Nat}{D:Ji}(hd:Ew vm ss dst D=cI ss')(au:∀ d,dst=cI d->d<tmps.size){c:Bool}
  {S':Nat->Prop} {gb:Gh} {av:Cp} {κ:Nat->Nat} {v:Value} {r:AV} (hv:RV S' w gb av κ v r) (hS:∀ b,S b->S' b)
  (hH:∀ i,Jk r i->∀ sz els,Ie (JX r i)=cI ⟨sz,els⟩->IK S w (gb.β (κ i)) (gb.cap (κ i)) sz els) (R:(Dr s key D (Gq c (adopt key r))).ok=bI) :
  MY S (fun _=>False) (GC g gb κ key r) w (It tmps dst v) vm ss' (Dr s key D (Gq c (Go.Proofs.YtegmpdmpgmpiaaaGreatDoor.adopt key r)))∧s.ok=bI∧c=bI ∧
  (∀ k C,AK k (Dr s key D (Gq c (Go.Proofs.YtegmpdmpgmpiaaaGreatDoor.adopt key r))).ob=cI C->(k/32=key∧In r (k%32)=bI)∨(¬ (k/32=key∧In r (k%32)=bI)∧AK k s.ob=cI C)):=by
 have ao:s.ok=bI∧c=bI∧(Go.Proofs.YtegmpdmpgmpiaaaGreatDoor.adopt key r).ok=bI:=by
  revert R;unfold Dr Gq;cases (Go.Proofs.YtegmpdmpgmpiaaaGreatDoor.adopt key r).hs with
  | nil=>simp only[UG];intro R;cases D<;>simpa[BE] using R
  | cons p q=>
   simp only[UG,Sk];have:(Go.Proofs.YtegmpdmpgmpiaaaGreatDoor.clear s key).ok=s.ok:=by unfold Go.Proofs.YtegmpdmpgmpiaaaGreatDoor.clear;rw[AM];split<;>rfl
   intro R;cases D<;>simpa[BE,this] using R
 obtain⟨h1,h2,h3⟩:=ao
 have ax:∃ I:St,Dr s key D (Gq c (Go.Proofs.YtegmpdmpgmpiaaaGreatDoor.adopt key r))=BE { I with ob:=Fo I.ob (Go.Proofs.YtegmpdmpgmpiaaaGreatDoor.adopt key r).hs } (c&&(Go.Proofs.YtegmpdmpgmpiaaaGreatDoor.adopt key r).ok) (Go.Proofs.YtegmpdmpgmpiaaaGreatDoor.adopt key r).v D∧MY S (fun _=>False) g w tmps vm ss I ∧
   (∀ k C,AK k I.ob=cI C->AK k s.ob=cI C)∧(∀ k,k/32=key->In r (k%32)=bI->¬ KY I.ob k):=by
  unfold Dr Gq;cases a4:(Go.Proofs.YtegmpdmpgmpiaaaGreatDoor.adopt key r).hs with
  | nil=>
   refine⟨s,rfl,h,fun k C j=>j,fun k hk hf=>?_⟩;exfalso;have:=Rz h3 k [];rw[a4,if_pos ⟨hk,hf⟩] at this;simp only[Fo,AK] at this
   have ac:JH (JX r (k%32))=bI:=by
    revert hf;cases r<;>simp[In,JX]<;>(try (intro _ h;exact h))<;>(try (intro _ _ h;exact h))
   revert this ac;generalize JX r (k%32)=x;intro this ac;cases x<;>simp[JH,Ie] at ac this
  | cons p q=>exact⟨Go.Proofs.YtegmpdmpgmpiaaaGreatDoor.clear s key,rfl,h.clear key,fun k C j=>em j,fun k hk _=>lY hk⟩
 obtain⟨I,e1,J,aj,ab⟩:=ax;have U:=Rz (d:=key) h3
 have aa:∀ k,Sg g (GC g gb κ key r) I.ob (Fo I.ob (Go.Proofs.YtegmpdmpgmpiaaaGreatDoor.adopt key r).hs) k:=by
  intro k C j;have hn:¬ (k/32=key∧In r (k%32)=bI):=fun e=>ab k e.1 e.2 ⟨C,j⟩
  exact⟨C,by rw[U,if_neg hn];exact j,rfl,rfl,by simp[GC,hn],by simp[GC,hn]⟩
 have ay:MY S (fun _=>False) (GC g gb κ key r) w tmps vm ss { I with ob:=Fo I.ob (Go.Proofs.YtegmpdmpgmpiaaaGreatDoor.adopt key r).hs }:=by
  refine⟨fun k C _ j=>?_,J.vl,J.sl,fun i hi=>(J.vs i hi).mono (dX _ _) (fun _ _ c=>c) fun k _=>aa k,fun i hi=>(J.st i hi).mono (dX _ _) (fun _ _ c=>c) fun k _=>aa k,J.fit⟩;simp only[U] at j
  by_cases e:k/32=key∧In r (k%32)=bI
  ·rw[if_pos e] at j;simp only[GC,if_pos e];exact hH _ (eQ.1 e.2) C.sz C.els j
  ·rw[if_neg e] at j;simp only[GC,if_neg e];exact J.home k C (fun c=>c) j
 have ae:SR S w (GC g gb κ key r) (Fo I.ob (Go.Proofs.YtegmpdmpgmpiaaaGreatDoor.adopt key r).hs) v (Go.Proofs.YtegmpdmpgmpiaaaGreatDoor.adopt key r).v:=hv.adopt hS h3;refine⟨?_,h1,h2,fun k C j=>?_⟩
 ·rw[e1];have:=AIs (S:=S) ay a1 hd au (c&&(Go.Proofs.YtegmpdmpgmpiaaaGreatDoor.adopt key r).ok) ae;exact this
 ·rw[e1] at j;have a0:(BE { I with ob:=Fo I.ob (Go.Proofs.YtegmpdmpgmpiaaaGreatDoor.adopt key r).hs } (c&&(Go.Proofs.YtegmpdmpgmpiaaaGreatDoor.adopt key r).ok) (Go.Proofs.YtegmpdmpgmpiaaaGreatDoor.adopt key r).v D).ob=Fo I.ob (Go.Proofs.YtegmpdmpgmpiaaaGreatDoor.adopt key r).hs:=by cases D<;>rfl
  rw[a0,U] at j
  by_cases e:k/32=key∧In r (k%32)=bI
  ·exact .inl e
  ·rw[if_neg e] at j;exact .inr ⟨e,aj k C j⟩
end
theorem xm{s:St}{d:Nat}:(clear s d).ok=s.ok:=by unfold clear;rw[AM];split<;>rfl
theorem UH{s:St}{c:Bool}{a:AV}{D:Ji}(h:(BE s c a D).ok=bI):s.ok=bI∧c=bI:=by cases D<;>simpa[BE] using h
theorem IL{s:St}{key:Nat}{D:Ji}{m:Mk}(h:(Dr s key D m).ok=bI):s.ok=bI∧m.ok=bI:=by
 unfold Dr at h;cases hm:m.hs with
 | nil=>rw[hm] at h;exact UH h
 | cons p q=>
  rw[hm] at h;simp only[UG] at h;have:=UH h;simpa[Sk,xm] using this
theorem lB{s:St}{k j:Nat}:AK j (j9 s k (AK k s.ob)).ob=if k=j then ga else AK j s.ob:=by
 cases p:AK k s.ob with
 | none=>
  simp only[j9]
  by_cases e:k=j
  ·rw[if_pos e,← e,p]
  ·rw[if_neg e]
 | some h=>simp only[j9,Dv]
theorem Oc{j:Nat}:∀ (ks:List Nat) (s:St),AK j (e9 s ks).ob=if j∈ks then ga else AK j s.ob
 | [],s=>by simp[e9]
 | k::r,s=>by
  simp only[e9];rw[Oc r,lB]
  by_cases C:j∈r
  ·simp[C]
  ·by_cases p:k=j
   ·simp[p]
   ·simp[C,p,Ne.symm p]
theorem zA{ob:Cp}{ms:List Md}{C:List AV}{k:Nat}{hm:Hm}(p:ms.length=C.length)(ab:Fh ms (Bc ob ms C)=bI)(hg:AK k (BR 0 (Bc ob ms C))=cI hm):
  ∃ j I,k=AD j∧j<C.length∧ms.getD j .bor ≠ .bor∧AK I ob=cI hm∧I∈(C.getD j .any).key1∧kk C j=I∧I∈Bd ms C:=by
 obtain⟨_,J⟩:=Pe _ _ ab;have U:=LZ ob ms C p;rw[U] at J;obtain⟨j,rfl,hf⟩:=Nh hg
 have R:j<C.length:=by
  rcases hA j C.length with h' | h'
  ·exact h'
  ·rw[k7,hD (by rw[U];exact h')] at hf;simp[Ie] at hf
 rw[Hr _ _ _ _ p R] at hf;have hs:=J j R;rw[Hr _ _ _ _ p R] at hs;obtain⟨h1,I,h2,h3,h4⟩:=Xs hf (fun e=>hs.1 e);refine⟨j,I,rfl,R,h1,h3,h4,?_,Lu ms C j p R h1 I h4⟩;unfold kk;rcases h2 with⟨e,_⟩|⟨_,e,_⟩<;>rw[e]<;>rfl
theorem ZL:∀ (ms:List Md) (p:List AV) {k:Nat},ms.length=p.length->k∈Bd ms p->k ∉ IM ms p->∃ j,j<p.length∧ms.getD j .bor = .io∧k∈(p.getD j .any).key1
 | [],[],k,_,h,_=>by simp[Bd] at h
 | [],_::_,_,h,_,_=>by simp at h
 | _::_,[],_,h,_,_=>by simp at h
 | m::ms,a::p,k,J,h,C=>by
  have I:=@ZL ms p k (by simpa using J)
  have up:(∃ j,j<p.length∧ms.getD j .bor = .io∧k∈(p.getD j .any).key1)->∃ j,j<(a::p).length∧(m::ms).getD j .bor = .io∧k∈((a::p).getD j .any).key1:=by
   rintro⟨j,U,h2,R⟩;exact⟨j+1,by simpa using U,by simpa using h2,by simpa using R⟩
  cases m
  ·exact up (I (by simpa[Bd] using h) (by simpa[IM] using C))
  ·simp only[Bd,bS] at h;rcases h with h|h
   ·exact⟨0,by simp,rfl,by simpa using h⟩
   ·exact up (I h (by simpa[IM] using C))
  ·simp only[Bd,IM,bS,not_or] at h C;rcases h with h|h
   ·exact absurd h C.1
   ·exact up (I h C.2)
theorem getElem?_io{ms:List Md}{j:Nat}(h:ms.getD j .bor = .io):ms[j]? = cI .io:=by
 rw[k7] at h;cases hm:ms[j]? with
 | none=>rw[hm] at h;cases h
 | some m=>rw[hm] at h;simpa using h
theorem sk{ms:List Md}(h:wL ms=bI)(j:Nat):ms.getD j .bor ≠ .io:=by
 intro e;have p:=getElem?_io e;simp only[wL,bR] at h;have:=h .io (iN p);simp at this
theorem lE{S S':Nat->Prop}{w:cS}{g:Gh}{ob:Cp}{k:Nat}{v:Value}{a:AV}(j:RH a=bI)(h:uf S w g ob k v a):uf S' w g ob k v a:=by
 cases a
 case fresh sz els=>exact h
 case mem sz els ix=>exact h
 all_goals first|exact lF j h|(simp[RH,Um] at j)
theorem qg{S S':Nat->Prop}{w:cS}{g:Gh}{ob:Cp}{κ:Nat->Nat}{v:Value}{r:AV}(I:OJ r=bI)(h:RV S w g ob κ v r):RV S' w g ob κ v r:=by
 cases r
 case tup R=>
  obtain⟨vs,rfl,J,C⟩:=h;simp only[OJ,bR] at I;exact⟨vs,rfl,J,fun j p=>lE (I _ (by rw[k7,geE p];exact e7 p)) (C j p)⟩
 all_goals
  simp only[RV] at h ⊢;exact lE I h
theorem eS{r:AV}(I:OJ r=bI){i sz:Nat}{els:List AV}(hi:Jk r i)(C:Ie (JX r i)=cI ⟨sz,els⟩):∀ i,i<els.length->((els.getD i .any).cells).all Um=bI:=by
 have R:∀ {x:AV},RH x=bI->Ie x=cI ⟨sz,els⟩->RH (.fresh sz els)=bI:=by
  intro x hx U;cases x<;>simp[Ie] at U<;>obtain⟨rfl,rfl⟩:=U<;>exact hx
 have key:RH (.fresh sz els)=bI:=by
  cases r
  case tup ab=>
   obtain⟨j,rfl,p,_⟩:=hi;simp only[JX,j2] at C;simp only[OJ,bR] at I;exact R (I _ (by rw[k7,geE p];exact e7 p)) C
  case fresh a b=>exact R (x:=.fresh a b) I C
  case mem a b c=>exact R (x:=.mem a b c) I C
  all_goals
   obtain⟨_,J⟩:=hi;simp[JH] at J
 intro j p;simp only[RH,bR] at key;exact key _ (by rw[k7,geE p];exact e7 p)
theorem eT{S S':Nat->Prop}{w:cS}{b cap sz:Nat}{els:List AV}(hf:∀ i,i<els.length->((els.getD i .any).cells).all Um=bI)(h:IK S w b cap sz els):IK S' w b cap sz els:=by
 refine⟨h.pos,h.len,h.cells,fun R=>?_⟩;obtain⟨arr,T,fz,J,C,hs,I⟩:=h.row R;refine⟨arr,T,fz,J,C,hs,fun i j hi U=>lF ?_ (I i j hi U)⟩;have p:=hf i hi;have h2:=(h.cells i hi).1;revert p h2;generalize (els.getD i .any).cells=cs;intro p h2;simp only[bR] at p;exact p _ (by rw[k7,geE (by omega)];exact e7 _)
theorem RV.fresh{S:Nat->Prop}{w:cS}{g:Gh}{ob:Cp}{κ:Nat->Nat}{v:Value}{r:AV}(h:RV S w g ob κ v r){i:Nat}(hi:Jk r i):∃ sz els,Ie (JX r i)=cI ⟨sz,els⟩∧AK (κ i) ob=cI ⟨sz,els⟩:=by
 cases r
 case tup R=>
  obtain⟨vs,rfl,U,C⟩:=h;obtain⟨j,rfl,J,p⟩:=hi;have I:=C j J;simp only[JX,j2];revert I p;generalize R.getD j .any=x;intro p I;cases x<;>simp[JH] at p<;>exact⟨_,_,rfl,I.1⟩
 case fresh sz els=>
  obtain⟨rfl,_⟩:=hi;exact⟨sz,els,rfl,h.1⟩
 case mem sz els ix=>
  obtain⟨rfl,_⟩:=hi;exact⟨sz,els,rfl,h.1⟩
 all_goals
  obtain⟨_,p⟩:=hi;simp[JH] at p
section
variable {F Iow:Nat->Prop}{w0:cS}{g0:Gh}{o0:Cp}{g:Gh}{w w':cS}{tmps:Array Value}{ds:List hE}{vm ss ss':List Nat}{s:St}{P:e8}{o:iS}{key:Nat}
theorem FX.call(h:FX F Iow w0 g0 o0 g w tmps vm ss s)(ff:QM vm){dst:Option Nat}{D:Ji}(hd:Ew vm ss dst D=cI ss')(eu:∀ d,dst=cI d->d<tmps.size){f:l0}{C:Ar}(hC:CF P f C)
  {bv:Array Value} {p:List AV} (ef:bv.size=p.length) (hv:∀ j,j<p.length->SR (AS F g s.ob) w g s.ob (bv.getD j hN) (p.getD j .any)) (a8:(OM s key D p (cI C)).ok=bI) :
  DD P f bv w fun e w'=>∃ v g',e = .returned v∧FX F Iow w0 g0 o0 g' w' (It tmps dst v) vm ss' (OM s key D p (cI C)):=by
 simp only[OM,PR] at a8 ⊢;generalize hq:C.F (Bc s.ob C.modes p)=q at a8 ⊢;obtain⟨c6,c5⟩:=IL a8;simp only[Gq,h9,beq_iff_eq] at c5;obtain⟨⟨⟨dw,ac,db,ew⟩,ej⟩,cd⟩:=c5
 have h1:FX F Iow w0 g0 o0 g w tmps vm ss (Tf C s p):=by
  unfold Tf;rw[AM];split
  ·exact h
  ·exact h.freezeAll _
 have b0:∀ k hm,AK k (Tf C s p).ob=cI hm->AK k s.ob=cI hm∧(C.flat=bX->k ∉ FJ C.modes p):=by
  intro k hm I;unfold Tf at I;rw[AM] at I;split at I
  ·rename_i e;exact⟨I,fun e2=>by rw[e] at e2;cases e2⟩
  ·rw[Oc] at I;split at I
   ·cases I
   ·rename_i e;exact⟨I,fun _=>e⟩
 have a9:∀ k hm,k∈Bd C.modes p->AK k s.ob=cI hm->AK k (Tf C s p).ob=cI hm:=by
  intro k hm hk I;unfold Tf;rw[AM];split
  ·exact I
  ·rw[Oc,if_neg (fun e=>aC ew hk e)];exact I
 generalize Tf C s p=s1 at h1 b0 a9 a8 c6 ⊢;have d4:∀ k,Ma g s1.ob k->Ma g s.ob k:=fun k ⟨⟨hm,I⟩,hp⟩=>⟨⟨hm,(b0 k hm I).1⟩,hp⟩
 have dz:∀ b,AS F g s1.ob b->AS F g s.ob b:=fun b J=>Ii (fun k ⟨hm,I⟩=>⟨hm,(b0 k hm I).1⟩) J
 let Fc:Nat->Prop:=fun b=>AS F g s1.ob b∧∀ k,(k∈Bd C.modes p∨k∈FJ C.modes p)->Ma g s.ob k->g.β k≠b
 have d9:=h.toFR.args (Fc:=Fc) ef hv db ew ac dw (fun b J=>⟨dz b J.1,J.2⟩);have et:=LZ s.ob C.modes p ac;obtain⟨bb,c9⟩:=hC.2 Fc (Lf g p) w (Bc s.ob C.modes p) bv dw (by rw[ef,et]) (by rw[et];exact d9) (by rw[hq];exact ej);rw[hq] at bb c9;refine c9.mono fun e w' he=>?_
 obtain⟨v,gb,a7,κ,rfl,B⟩:=he
 have gk:∀ j,(Lf g p).β (AD j)=g.β (kk p j)∧(Lf g p).cap (AD j)=g.cap (kk p j):=fun j=>by
  simp[Lf,UM]
 have ax:∀ k,Ma (Lf g p) (BR 0 (Bc s.ob C.modes p)) k->∃ k0,k0∈Bd C.modes p∧Ma g s1.ob k0∧g.β k0=(Lf g p).β k:=by
  rintro k ⟨⟨hm,I⟩,hp⟩;obtain⟨j,k0,rfl,hj,_,ho,_,ek,hio⟩:=zA ac dw I;rw[(gk j).2,ek] at hp;exact⟨k0,hio,⟨⟨hm,a9 k0 hm hio ho⟩,hp⟩,by rw[(gk j).1,ek]⟩
 have ad:AG (AS F g s1.ob) w w':=B.same.mono fun b _ ⟨k,hk,e⟩=>by
  obtain⟨k0,_,R,e0⟩:=ax k hk;exact .inr ⟨k0,R,by rw[e0,e]⟩
 have df:=B.same.size
 let SF:Nat->Prop:=fun b=>F b∨(∃ k,Ma g s1.ob k∧k ∉ IM C.modes p∧g.β k=b)∨∃ i,Jk q.r i∧0<gb.cap (κ i)∧gb.β (κ i)=b
 have aj:∀ b,b<w.heap.size->SF b->AS F g s1.ob b:=by
  rintro b J (hf|⟨k,hk,_,e⟩|⟨i,hi,hp,e⟩)
  ·exact .inl hf
  ·exact .inr ⟨k,hk,e⟩
  ·obtain⟨sz,els,_,I⟩:=B.val.fresh hi;rcases B.hio (κ i) ⟨⟨_,I⟩,hp⟩ with cn|⟨k',U,e'⟩
   ·omega
   ·obtain⟨k0,_,R,e0⟩:=ax k' U;exact .inr ⟨k0,R,by rw[e0,e',e]⟩
 have c8:∀ k,k∈Bd C.modes p->k ∉ IM C.modes p->Ma g s1.ob k->∃ j,C.modes[j]? = cI .io∧gb.β (AD j)=g.β k∧Ma gb a7 (AD j):=by
  intro k hk hm R;obtain⟨j,hj,ay,b3⟩:=ZL C.modes p ac hk hm;obtain⟨sz,e0,els,be,ev,cc,J,d7⟩:=B.out j (getElem?_io ay)
  have el:kk p j=k:=by
   unfold kk;revert b3;generalize p.getD j .any=x;intro b3;cases x<;>simp[AV.key1] at b3 ⊢<;>exact b3.symm
  refine⟨j,getElem?_io ay,by rw[J,(gk j).1,el],⟨_,cc⟩,?_⟩;rw[d7,(gk j).2,el];exact R.2
 have f3:C.flat=bX->∀ k,Ma g s1.ob k->k ∉ Bd C.modes p->Fc (g.β k):=by
  intro ab k R hk;refine⟨.inr ⟨k,R,rfl⟩,fun k' U ca e=>?_⟩;have:=h.inj k' k ca (d4 k R) e;subst this;rcases U with U | U
  ·exact hk U
  ·obtain⟨hm,I⟩:=R.1;exact (b0 k' hm I).2 ab U
 have ex:∀ b,F b->Fc b:=fun b J=>⟨.inl J,fun k _ R e=>h.nF k R (by rw[e];exact J)⟩
 have cf:C.flat=bX->∀ b,SF b->AS Fc gb a7 b:=by
  rintro ab b (hf|⟨k,hk,hm,e⟩|⟨i,hi,hp,e⟩)
  ·exact .inl (ex b hf)
  ·by_cases hio:k∈Bd C.modes p
   ·obtain⟨j,_,J,R⟩:=c8 k hio hm hk;exact .inr ⟨AD j,R,by rw[J,e]⟩
   ·exact .inl (e▸f3 ab k hk hio)
  ·obtain⟨sz,els,_,I⟩:=B.val.fresh hi;exact .inr ⟨κ i,⟨⟨_,I⟩,hp⟩,e⟩
 have f9:MY SF (fun k=>k∈Bd C.modes p) g w' tmps vm ss s1:=by
  refine⟨fun k hm hk I=>(h1.home k hm I).mono ad (fun hp=>?_) aj,h1.vl,h1.sl,fun i hi=>(h1.vs i hi).mono ad aj fun k _ hm I=>⟨hm,I,rfl,rfl,rfl,rfl⟩,
   fun i hi=>(h1.st i hi).mono ad aj fun k _ hm I=>⟨hm,I,rfl,rfl,rfl,rfl⟩,h1.fit⟩
  refine B.same.block _ ((h1.home k hm I).lt hp) ?_;rintro⟨k',U,e⟩;obtain⟨k0,hio,R,e0⟩:=ax k' U;exact hk (h1.inj k k0 ⟨⟨hm,I⟩,hp⟩ R (by rw[e0,e])▸hio)
 have f0:bD SF g w' s1.ob C.modes p q.outs:=by
  intro j hj ay
  have ab:C.flat=bX:=by
   cases ab:C.flat with
   | false=>rfl
   | true=>exact absurd ay (sk (hC.1 ab) j)
  obtain⟨sz,e0,els,be,ev,cc,J,d7⟩:=B.out j (getElem?_io ay)
  have hf:Ie (EZ s.ob (C.modes.getD j .bor) (p.getD j .any))=cI ⟨sz,e0⟩:=by
   rw[← Hr s.ob C.modes p j ac hj];rcases be with⟨e,_⟩|⟨_,_,e,_⟩<;>rw[e]<;>rfl
  obtain⟨_,k0,h2,h3,h4⟩:=Xs hf (fun e=>by rw[ay] at e;cases e);have hio:=Lu C.modes p j ac hj (by rw[ay];decide) k0 h4;have ek:kk p j=k0:=by unfold kk;rcases h2 with⟨e,_⟩|⟨_,e,_⟩<;>rw[e]<;>rfl
  have hH:=(B.home (AD j) ⟨sz,els⟩ cc).mono (dX (AS Fc gb a7) w') (fun _=>rfl) (S':=SF) fun b _ J=>cf ab b J
  rw[J,d7,(gk j).1,(gk j).2,ek] at hH;have fa:=a9 k0 _ hio h3;have a0:=be;rw[Hr s.ob C.modes p j ac hj] at a0;refine⟨k0,⟨sz,e0⟩,sz,els,?_,fa,rfl,ev,hH⟩;rcases h2 with⟨e,e2⟩|⟨i0,e,e2⟩
  ·rcases a0 with⟨_,e3⟩|⟨_,_,e4,_⟩
   ·exact .inl ⟨e,e3⟩
   ·rw[e2] at e4;cases e4
  ·rcases a0 with⟨e4,_⟩|⟨_,i',_,e3⟩
   ·rw[e2] at e4;cases e4
   ·exact .inr ⟨i0,i',e,e3⟩
 obtain⟨f8,fd,dc⟩:=MN C.modes p q.outs f9 ac f0 db c6;have e6:MY SF (fun _=>False) g w' tmps vm ss (Ag s1 C.modes p q.outs):=f8.pend' fun k _ hp=>hp.2 hp.1
 have b9:∃ S':Nat->Prop,RV S' w' gb a7 κ v q.r∧∀ b,SF b->S' b:=by
  cases ab:C.flat with
  | true=>exact⟨SF,qg (bb ab) B.val,fun _ c=>c⟩
  | false=>exact⟨_,B.val,cf ab⟩
 obtain⟨S',b9,fy⟩:=b9;generalize Ag s1 C.modes p q.outs=s2 at a8 e6 dc ⊢;generalize ((Fh C.modes (Bc s.ob C.modes p)&&(C.modes.length==p.length&&(Eb (Bd C.modes p)&&apart (Bd C.modes p) (FJ C.modes p))))&&q.ok)=c0 at a8 ⊢
 obtain⟨bs,_,_,d8⟩:=e6.adopt ff hd eu b9 fy (fun i hi sz els hp=>by
  obtain⟨gu,gn,e1,e2⟩:=B.val.fresh hi;rw[hp] at e1;cases e1;cases ab:C.flat with
  | true=>exact eT (eS (bb ab) hi hp) (B.home (κ i) ⟨sz,els⟩ e2)
  | false=>exact (B.home (κ i) ⟨sz,els⟩ e2).mono (dX (AS Fc gb a7) w') (fun _=>rfl) (S':=SF) fun b _ J=>cf ab b J) a8
 refine⟨v,GC g gb κ key q.r,rfl,?_⟩;generalize Dr s2 key D (Gq c0 (adopt key q.r))=s3 at bs d8 ⊢
 have cb:∀ k,Ma (GC g gb κ key q.r) s3.ob k->(k/32=key∧Jk q.r (k%32)∧(GC g gb κ key q.r).β k=gb.β (κ (k%32))∧Ma gb a7 (κ (k%32))) ∨
   (k ∉ IM C.modes p∧Ma g s1.ob k∧(GC g gb κ key q.r).β k=g.β k):=by
  rintro k ⟨⟨hm,I⟩,hp⟩;rcases d8 k hm I with e|⟨e,d5⟩
  ·have b7:=eQ.1 e.2;obtain⟨sz,els,_,cc⟩:=B.val.fresh b7;simp only[GC,if_pos e] at hp;exact .inl ⟨e.1,b7,by simp only[GC,if_pos e],⟨_,cc⟩,hp⟩
  ·obtain⟨b6,h0,d6,_⟩:=dc k hm d5;simp only[GC,if_neg e] at hp;exact .inr ⟨b6,⟨⟨h0,d6⟩,hp⟩,by simp only[GC,if_neg e]⟩
 have b4:∀ b,AS F (GC g gb κ key q.r) s3.ob b->SF b:=by
  rintro b (hf|⟨k,hk,e⟩)
  ·exact .inl hf
  ·rcases cb k hk with⟨_,b7,e2,R⟩|⟨b6,R,e2⟩
   ·exact .inr (.inr ⟨_,b7,R.2,by rw[← e2,e]⟩)
   ·exact .inr (.inl ⟨k,R,b6,by rw[← e2,e]⟩)
 have c7:∀ k k',(Jk q.r (k%32)∧Ma gb a7 (κ (k%32)))->(k' ∉ IM C.modes p∧Ma g s1.ob k')->gb.β (κ (k%32))≠g.β k':=by
  rintro k k' ⟨b7,R⟩ ⟨b6,ca⟩ e
  by_cases hio:k'∈Bd C.modes p
  ·obtain⟨j,ay,J,fi⟩:=c8 k' hio b6 ca;exact B.κio _ j b7 ay (B.inj _ _ R fi (by rw[e,J]))
  ·rcases B.hio _ R with cn|⟨k2,fs,e2⟩
   ·obtain⟨⟨hm,I⟩,hp⟩:=ca;have:=(h1.home k' hm I).lt hp;rw[e] at cn;omega
   ·obtain⟨k0,es,fm,e0⟩:=ax k2 fs;have:=h1.inj k0 k' fm ca (by rw[e0,e2,e]);exact hio (this▸es)
 have fu:FR F (GC g gb κ key q.r) w' (It tmps dst v) vm ss' s3:=by
  refine⟨fun k hm I=>(bs.home k hm (fun c=>c) I).mono (dX SF w') (fun _=>rfl) fun b _ J=>b4 b J,fun k k' hk U e=>?_,fun k hk=>?_,fun b J=>Nat.lt_of_lt_of_le (h1.fb b J) df,bs.vl,bs.sl,
   fun i hi=>(bs.vs i hi).mono (dX SF w') (fun b _ J=>b4 b J) fun k _ hm I=>⟨hm,I,rfl,rfl,rfl,rfl⟩,fun i hi=>(bs.st i hi).mono (dX SF w') (fun b _ J=>b4 b J) fun k _ hm I=>⟨hm,I,rfl,rfl,rfl,rfl⟩,bs.fit,h1.tab.mono ad fun b J c=>aj b J (b4 b c)⟩
  ·rcases cb k hk with⟨d1,f1,e1,l1⟩|⟨n1,l1,e1⟩<;>rcases cb k' U with⟨d2,f2,e2,l2⟩|⟨n2,l2,e2⟩<;>rw[e1,e2] at e
   ·have:=B.κinj _ _ f1 f2 (B.inj _ _ l1 l2 e);omega
   ·exact absurd e (c7 k k' ⟨f1,l1⟩ ⟨n2,l2⟩)
   ·exact absurd e.symm (c7 k' k ⟨f2,l2⟩ ⟨n1,l1⟩)
   ·exact h1.inj k k' l1 l2 e
  ·rcases cb k hk with⟨d1,f1,e1,l1⟩|⟨n1,l1,e1⟩<;>rw[e1]
   ·exact fun hf=>B.nF _ l1 (ex _ hf)
   ·exact h1.nF k l1
 refine⟨fu,h1.same.into (B.same.mono fun b _ ⟨k,hk,e⟩=>?_),fun k hk=>?_,h1.fio,fun k hm hk I=>?_⟩
 ·obtain⟨k0,_,R,e0⟩:=ax k hk;rw[← e,← e0];exact h1.hio k0 R
 ·rcases cb k hk with⟨d1,f1,e1,l1⟩|⟨n1,l1,e1⟩<;>rw[e1]
  ·rcases B.hio _ l1 with cn|⟨k',U,e'⟩
   ·exact .inl (Nat.le_trans h1.same.size cn)
   ·obtain⟨k0,_,R,e0⟩:=ax k' U;rw[← e',← e0];exact h1.hio k0 R
  ·exact h1.hio k l1
 ·rcases d8 k hm I with e|⟨e,d5⟩
  ·exfalso;have hB:=e.2;rw[hk] at hB;have d0:∀ cs,q.r = .tup cs->cs.length<31:=fun cs fx=>by rw[fx] at cd;simpa[adopt] using cd
   revert hB d0;generalize q.r=x;intro hB d0;cases x<;>simp[In] at hB
   have:=d0 _ rfl;omega
  ·obtain⟨b6,h0,d6,hz,R⟩:=dc k hm d5;obtain⟨f4,a1,a2,a3,a4⟩:=h1.par k h0 hk d6;refine⟨f4,a1,by rw[hz,a2],by omega,fun e2=>?_⟩;obtain⟨b1,b2⟩:=a4 (by omega);simp only[GC,if_neg e];exact⟨b1,b2⟩
end
open Go Go.RowKit
def RT(vm ss:List Nat)(f:Nat)(args:List Src):Op->Bool
 | .call { callee:=.value (.func f'),args:=xs,argTypes:=_ }=>f'==f&&Qe vm ss xs.toList args
 | _=>bX
def WV(vm ss:List Nat)(j:Src)(args:List Src):Op->Bool
 | .call { callee:=.value y,args:=xs,argTypes:=_ }=>BU vm ss y j&&Qe vm ss xs.toList args
 | _=>bX
def Kq(P:e8)(T:Kc):Prop:=∀ f C,T f=cI C->CF P f C
section
variable {F Iow:Nat->Prop}{w0:cS}{g0:Gh}{o0:Cp}{g:Gh}{w w':cS}{tmps:Array Value}{ds:List hE}{vm ss ss':List Nat}{s:St}{P:e8}{o:iS}{key:Nat}{T:Kc}{D:Ji}
 {K:Act->cS->Prop} {Q:lf->Act->cS->Prop}
theorem FX.unS(h:FX F Iow w0 g0 o0 g w tmps vm ss s):FX F Iow w0 g0 o0 g w tmps vm ss (unS s):=⟨h.toFR.unS,h.same,h.hio,h.fio,h.par⟩
theorem FX.setOk(h:FX F Iow w0 g0 o0 g w tmps vm ss s)(ok:Bool):FX F Iow w0 g0 o0 g w tmps vm ss { s with ok:=ok }:=⟨h.toFR.setOk ok,h.same,h.hio,h.fio,h.par⟩
theorem Jz{f:l0}{j:Array Value}{R:Ending->cS->Prop}(h:DD P f j w R){a:Act}(J:∀ v w',R (.returned v) w'->K (a.put o.dst v) w')(hp:∀ c w',¬ R (.panicked c) w')(p:∀ w',¬ R .outgrown w'):
  o.upon P a K Q ((l5 f j).run P w):=by
 unfold DD at h;split at h
 ·rename_i v w' e;rw[e];exact J _ _ h
 ·rename_i f' I w' e;rw[e,Oper.upon_enter];refine Calls.mono h fun en U C=>?_
  cases en with
  | returned v=>exact J _ _ C
  | panicked c=>exact (hp _ _ C).elim
  | outgrown=>exact (p _ C).elim
 ·exact h.elim
theorem Ph(tmps:Array Value)(ds:List hE)(dst:Option Nat)(v:Value):({ tmps:=tmps,defers:=ds }:Act).put dst v=⟨It tmps dst v,ds⟩:=by cases dst<;>rfl
theorem Kx(tmps:Array Value)(dst:Option Nat)(v:Value):(It tmps dst v).size=tmps.size:=by cases dst<;>simp[It]
theorem Jw{ρ:kR->Value}{y:kR}{xs:Array kR}{j:Array TypeId}{f:l0}{v1 v2:Array Value}(p:ρ y = .func (.func f) v1 v2)(C:o.op = .call { callee:=.value y,args:=xs,argTypes:=j }):
  (eL ρ o).run P w=(l5 f (v1++xs.map ρ++v2)).run P w:=by
 unfold eL;simp only[C,resolve,p,Deferred.ofValue,invoke,Sem.run_bind,Sem.run_pure,Result.andThen_ok]
theorem Vf(hT:Kq P T)(h:FX F Iow w0 g0 o0 g w tmps vm ss s)(ab:QM vm)(hd:Ew vm ss o.dst D=cI ss')(R:∀ d,o.dst=cI d->d<tmps.size){c:Cal}{I:Array Value}
  (aa:I.size=c.args.length) (hv:∀ j,j<c.args.length->SR (AS F g s.ob) w g s.ob (I.getD j hN) (c.args.getD j .any)) (J:(Km T s key D c).ok=bI)
  (hK:∀ p w' g',p.size=tmps.size->FX F Iow w0 g0 o0 g' w' p vm ss' (Km T s key D c)->K ⟨p,ds⟩ w'):o.upon P ⟨tmps,ds⟩ K Q ((l5 c.f I).run P w):=by
 unfold Km at J hK;cases hC:T c.f with
 | none=>rw[hC] at J;simp[OM,fail] at J
 | some C=>
  rw[hC] at J hK;have:=(h.setOk (s.ok&&c.ok)).call (key:=key) ab hd R (hT _ _ hC) aa hv J;refine Jz this (fun v w' U=>?_) (fun c w' U=>?_) (fun w' U=>?_)
  ·obtain⟨v',g',e,ac⟩:=U;cases e
   rw[Ph];exact hK _ _ _ (Kx _ _ _) ac
  ·obtain⟨v',g',e,_⟩:=U;cases e
  ·obtain⟨v',g',e,_⟩:=U;cases e
theorem NN(hT:Kq P T)(h:FX F Iow w0 g0 o0 g w tmps vm ss s){c:Cal}{aa:Array Value}
  (a6:aa.size=c.args.length) (hv:∀ j,j<c.args.length->SR (AS F g s.ob) w g s.ob (aa.getD j hN) (c.args.getD j .any)) (ac:(DI T s.ob c).ok=bI) (hl:(DI T s.ob c).v.lone=bI) (hh:(DI T s.ob c).hs=[]) :
  DD P c.f aa w fun e w'=>∃ v,e = .returned v∧AG (fun _=>False) w w'∧SR (AS F g s.ob) w' g s.ob v (DI T s.ob c).v:=by
 simp only[DI,Gq,h9] at ac hl hh ⊢;cases hC:T c.f with
 | none=>rw[hC] at ac;simp[Zn,bad] at ac
 | some C=>
  rw[hC] at ac hl hh;simp only[Zn,Gq,h9,beq_iff_eq,e5] at ac hl hh ⊢;obtain⟨_,⟨ae,⟨a0,ab⟩,R,a7⟩,a4⟩:=ac;have hS:=hT _ _ hC
  have bs:∀ j,C.modes.getD j .bor = .bor:=by
   intro j;simp only[bR,beq_iff_eq] at ab;rw[k7];cases hm:C.modes[j]? with
   | none=>rfl
   | some m=>exact ab m (iN hm)
  have hio:∀ k,k ∉ Bd C.modes c.args:=by
   have gen:∀ (ms:List Md) (U:List AV),(∀ m,m∈ms->m = .bor)->Bd ms U=[]:=by
    intro ms
    induction ms with
    | nil=>intro U _;rfl
    | cons m ms ih=>
     intro U J;have:=J m (by simp);subst this;cases U with
     | nil=>rfl
     | cons a U=>exact ih U fun m hm=>J m (by simp[hm])
   simp only[bR,beq_iff_eq] at ab;intro k hk;rw[gen _ _ ab] at hk;simp at hk
  have ay:Bd C.modes c.args=[]:=j7.2 hio
  let Fc:Nat->Prop:=fun b=>AS F g s.ob b∧∀ k,(k∈Bd C.modes c.args∨k∈FJ C.modes c.args)->Ma g s.ob k->g.β k≠b
  have a3:=h.toFR.args (Fc:=Fc) (ms:=C.modes) a6 hv (by rw[ay];rfl) (by rw[ay];rfl) ae a0 (fun b hb=>hb);have a9:=LZ s.ob C.modes c.args ae;obtain⟨ao,a8⟩:=hS.2 Fc (Lf g c.args) w (Bc s.ob C.modes c.args) aa a0 (by rw[a6,a9]) (by rw[a9];exact a3) a7;refine a8.mono fun e w' he=>?_
  obtain⟨v,gb,av,κ,rfl,B⟩:=he
  have ad:∀ k,¬ Ma (Lf g c.args) (BR 0 (Bc s.ob C.modes c.args)) k:=by
   rintro k ⟨⟨hm,hg⟩,_⟩;obtain⟨j,k0,_,_,bo,_⟩:=zA ae a0 hg;exact bo (bs j)
  refine⟨v,rfl,B.same.mono fun b _ ⟨k,hk,_⟩=>(ad k hk).elim,?_⟩
  have p:∃ S':Nat->Prop,RV S' w' gb av κ v (C.F (Bc s.ob C.modes c.args)).r∧(∀ b,AS F g s.ob b->S' b) ∧
    ∀ sz els,Jk (C.F (Bc s.ob C.modes c.args)).r 0->Ie (JX (C.F (Bc s.ob C.modes c.args)).r 0)=cI ⟨sz,els⟩->AK (κ 0) av=cI ⟨sz,els⟩->IK (AS F g s.ob) w' (gb.β (κ 0)) (gb.cap (κ 0)) sz els:=by
   rcases R with R|R
   ·exact⟨AS F g s.ob,qg (ao R) B.val,fun _ c=>c,fun sz els h1 h2 h3=>eT (eS (ao R) h1 h2) (B.home (κ 0) ⟨sz,els⟩ h3)⟩
   ·have ax:∀ b,AS F g s.ob b->AS Fc gb av b:=by
     refine fun b hb=>.inl ⟨hb,fun k hk _ _=>?_⟩
     have b0:∀ (ms:List Md) (U:List AV),(∀ a,a∈U->a.keys=[])->FJ ms U=[]:=by
      intro ms
      induction ms with
      | nil=>intro U _;cases U<;>rfl
      | cons m ms ih=>
       intro U J;cases U with
       | nil=>cases m<;>rfl
       | cons a U=>
        have i1:=ih U fun a ha=>J a (by simp[ha])
        cases m<;>simp[FJ,i1,J a (by simp)]
     simp only[bR,gg] at R;rcases hk with hk|hk
     ·exact hio k hk
     ·rw[b0 _ _ R] at hk;simp at hk
    exact⟨_,B.val,ax,fun sz els _ _ h3=>(B.home (κ 0) ⟨sz,els⟩ h3).mono (dX _ _) (fun _=>rfl) fun b _ hb=>ax b hb⟩
  obtain⟨S',p,ax,I⟩:=p;revert p a4 hl hh I;generalize (C.F (Bc s.ob C.modes c.args)).r=r;intro a4 hl hh p I
  have blk:∀ {sz:Nat} {els:List AV},AK (κ 0) av=cI ⟨sz,els⟩->IK (AS F g s.ob) w' (gb.β (κ 0)) (gb.cap (κ 0)) sz els ->
    VR (AS F g s.ob) w' (.slice (cI ⟨gb.β (κ 0),0,ga⟩) els.length (gb.cap (κ 0))) (.sl sz els)∧(gb.cap (κ 0)=0->VR (AS F g s.ob) w' (.slice ga 0 0) (.sl sz els)) ∧
    ∀ i off,i<els.length->VR (AS F g s.ob) w' (.pointer (cI ⟨gb.β (κ 0),i*sz+off,ga⟩)) (.ptr sz els i off):=by
   intro sz els ho hH;obtain⟨rr,a2⟩:=hH.cell;refine hH.sl a2 (fun _ c=>c) fun hp c=>?_
   have cc:=h.toFR.setLt c;rcases B.hio (κ 0) ⟨⟨_,ho⟩,hp⟩ with cf|⟨k',bv,_⟩
   ·omega
   ·exact ad k' bv
  cases r<;>simp[aF,adopt,Ds,bad,Fp] at a4 hl hh
  case fresh sz els=>
   obtain⟨q1,q2,_⟩:=blk p.1 (I sz els ⟨rfl,rfl⟩ rfl p.1);rcases p.2 with e|⟨e0,e⟩
   ·rw[e];exact q1.toSR
   ·rw[e];exact (q2 e0).toSR
  case mem sz els ix=>
   obtain⟨_,_,q3⟩:=blk p.1 (I sz els ⟨rfl,rfl⟩ rfl p.1);obtain⟨_,cd,e⟩:=p;have:=q3 0 0 (by omega);rw[kb,ke] at this;rw[e];exact this.toSR
  all_goals first
   | (simp[AV.lone] at hl;done)
   | exact (VR.mono (S':=AS F g s.ob) (dX S' w') (fun b _ c=>ax b c) p).toSR
end
theorem ni{s:St}{k:Nat}{h:Option Hm}:(j9 s k h).ok=s.ok:=by cases h<;>rfl
theorem Hs:∀ (ks:List Nat) (s:St),(e9 s ks).ok=s.ok
 | [],_=>rfl
 | k::r,s=>by simp only[e9];rw[Hs r,ni]
theorem sF{s:St}{sz:Nat}{x p:AV}(h:(LJ s sz x p).ok=bI):s.ok=bI:=by
 cases p<;>simp only[LJ,fail] at h<;>try (cases h;done)
 rename_i k i off;cases j:AK k s.ob with
 | none=>rw[j] at h;simp[Sn,fail] at h
 | some hm=>
  rw[j] at h;simp only[Sn,Tk,h9] at h;exact h.1
theorem ABn{s:St}{key:Nat}{D:Ji}{sz bytes:Nat}{y:Ap}{a:AV}(h:(TX s key D sz bytes y a).ok=bI):s.ok=bI:=by
 cases a<;>simp only[TX,fail] at h<;>try (cases h;done)
 case nilsl=>exact (IL h).1
 case own k=>
  cases j:AK k s.ob with
  | none=>rw[j] at h;simp[WX,fail] at h
  | some hm=>rw[j] at h;exact (UH h).1
theorem rY{s:St}{D:Ji}{sz:Nat}{n:Int}{a:AV}(h:(LI s D sz n a).ok=bI):s.ok=bI:=by
 cases a<;>simp only[LI,fail] at h<;>try (cases h;done)
 rename_i k;cases j:AK k s.ob with
 | none=>rw[j] at h;simp[VZ,fail] at h
 | some hm=>rw[j] at h;exact (UH h).1
theorem KA:∀ (ms:List Md) (j os:List AV) (s:St),(Ag s ms j os).ok=bI->s.ok=bI
 | [],[],[],s,h=>h
 | [],[],q::os,s,h=>by simp[Ag,fail] at h
 | [],a::j,os,s,h=>by simp[Ag,fail] at h
 | m::ms,[],os,s,h=>by cases m<;>simp[Ag,fail] at h
 | m::ms,a::j,[],s,h=>by cases m<;>cases a<;>simp[Ag,fail] at h
 | .bor::ms,a::j,q::os,s,h=>KA ms j os s h
 | .io::ms,a::j,q::os,s,h=>by
  unfold Ag at h;split at h
  ·simp_all
  ·rename_i I C p;simp only[List.cons.injEq] at I C p;obtain⟨_,rfl⟩:=I;obtain⟨_,rfl⟩:=C;obtain⟨_,rfl⟩:=p;have:=KA _ _ _ _ h;exact this
  ·rename_i I C p;simp only[List.cons.injEq] at I C p;obtain⟨_,rfl⟩:=I;obtain⟨_,rfl⟩:=C;obtain⟨_,rfl⟩:=p;have:=KA _ _ _ _ h;exact this
  ·simp_all
  ·simp_all
  ·simp_all
  ·simp[fail] at h
 | .mov::ms,a::j,q::os,s,h=>by
  cases a<;>simp only[Ag,fail] at h<;>try (cases h;done)
  ·have:=KA _ _ _ _ h;exact this
  ·have:=KA _ _ _ _ h;exact this
theorem xr{s:St}{key:Nat}{D:Ji}{p:List AV}{C:Option Ar}(h:(OM s key D p C).ok=bI):s.ok=bI:=by
 cases C with
 | none=>simp[OM,fail] at h
 | some C=>
  simp only[OM,PR] at h;have j:=KA _ _ _ _ (IL h).1;unfold Tf at j;rw[AM] at j;split at j
  ·exact j
  ·rwa [Hs] at j
theorem PP{T:Kc}{s:St}{key:Nat}{D:Ji}{c:Cal}(h:(Km T s key D c).ok=bI):s.ok=bI∧c.ok=bI:=by
 have:=xr h;simpa using this
theorem ABJ{T:Kc}{s:St}{key:Nat}{D:Ji}{a:Jc}(h:(Cu T s key D a).ok=bI):s.ok=bI:=by
 cases a<;>simp only[Cu] at h
 case callw=>cases h
 case store=>have:=sF h;rwa [Hs] at this
 case app=>exact ABn h
 case call=>exact (PP h).1
 case callv=>exact (PP h).1
 case box=>have:=(IL h).1;rwa [Hs] at this
 case build=>have:=(IL h).1;rwa [Hs] at this
 case mkSl=>have:=(IL h).1;rwa [Hs] at this
 case slice=>have:=(IL h).1;rwa [Hs] at this
 case movz=>have:=(IL h).1;rwa [Hs] at this
 case trunc=>exact rY h
 all_goals exact (IL h).1
theorem fW{s:St}{w:Bool}{D:Ji}{m:Mk}(h:(OW s w D m).ok=bI):s.ok=bI∧(w=bI->m.ok=bI∧m.hs=[]∧m.v.lone=bI):=by
 obtain⟨j,h2⟩:=UH h;refine⟨j,fun e=>?_⟩;subst e;simpa using h2
theorem kl{T:Kc}{s:St}{key:Nat}{D:Ji}{w:Bool}{a:Jc}(h:(Mp T s key D w a).ok=bI):s.ok=bI:=by
 unfold Mp at h;split at h
 ·unfold nZ at h;split at h
  ·exact (PP h).1
  ·exact (fW h).1
 ·exact (fW h).1
theorem lV{T:Kc}{s:St}{i:Mb}(h:(Db T s i).ok=bI):s.ok=bI:=by
 unfold Db WE at h;split at h
 ·exact ABJ h
 ·have:=kl h;simp at this;exact this.1
theorem NL{T:Kc}:∀ (is:List Mb) {s:St},(GB T is s).ok=bI->s.ok=bI
 | [],_,h=>h
 | i::r,s,h=>lV (NL r h)
def jQ(P:e8)(vm ss:List Nat)(D:Ji)(op:Op)(a:Jc):Bool :=
 match a with
 | .store sz p x=>D == .no&&oR P vm ss sz p x op
 | .app sz bytes z a x=>ABg P vm ss sz bytes z a x op
 | .call f args=>RT vm ss f args op
 | .callv f args=>WV vm ss f args op
 | .callp f args=>RT vm ss f args op
 | .pur (.call f args)=>RT vm ss f args op
 | .pur (.callv f args)=>WV vm ss f args op
 | .pur a=>Ax a&&Oe P vm ss op a
 | .pick c a b=>fG vm ss c a b op
 | .flat a=>jQ P vm ss D op a
 | .trunc sz x hi=>oQ P vm ss sz x hi op
 | .movz x=>Oe P vm ss op (.mov x)
 | .safe _ a=>jQ P vm ss D op a
 | a=>Oe P vm ss op a
section
variable {F Iow:Nat->Prop}{w0:cS}{g0:Gh}{o0:Cp}{g:Gh}{w w':cS}{tmps:Array Value}{ds:List hE}{vm ss ss':List Nat}{s:St}{P:e8}{o:iS}{key:Nat}{T:Kc}{D:Ji}
 {K:Act->cS->Prop} {Q:lf->Act->cS->Prop}
theorem LE(h:FR F g w tmps vm ss s){xs:Array kR}{p:List Src}(C:Qe vm ss xs.toList p=bI):(xs.map ({ tmps:=tmps,defers:=ds }:Act).eval).size=(p.map (rd s)).length ∧
  ∀ j,j<(p.map (rd s)).length->SR (AS F g s.ob) w g s.ob ((xs.map ({ tmps:=tmps,defers:=ds }:Act).eval).getD j hN) ((p.map (rd s)).getD j .any):=by
 refine⟨by simpa using RO C,fun j I=>?_⟩;have:=RP (ds:=ds) h j C (by simpa using I);rw[← Ei,Array.toList_map];exact this
theorem TW{S:Nat->Prop}{ob:Cp}{v1 p v2:Array Value}{a1 C a2:List AV}(I:v1.size=a1.length)(n:p.size=C.length)(J:v2.size=a2.length)
  (U:∀ j,j<a1.length->SR S w g ob (v1.getD j hN) (a1.getD j .any)) (h:∀ j,j<C.length->SR S w g ob (p.getD j hN) (C.getD j .any)) (h2:∀ j,j<a2.length->SR S w g ob (v2.getD j hN) (a2.getD j .any)) :
  (v1++p++v2).size=(a1++C++a2).length∧∀ j,j<(a1++C++a2).length->SR S w g ob ((v1++p++v2).getD j hN) ((a1++C++a2).getD j .any):=by
 refine⟨by simp[I,n,J],fun j R=>?_⟩;simp only[ku] at R;rw[PT,PT,JA,JA];simp only[Array.size_append,ku,I,n]
 by_cases c1:j<a1.length+C.length
 ·rw[if_pos c1,if_pos c1]
  by_cases c2:j<a1.length
  ·rw[if_pos c2,if_pos c2];exact U j c2
  ·rw[if_neg c2,if_neg c2];exact h _ (by omega)
 ·rw[if_neg c1,if_neg c1];exact h2 _ (by omega)
theorem RQ{args:List AV}{a:AV}(h:(Kg args a).ok=bI):∃ f a1 a2,a = .fn (.func f) a1 a2∧Kg args a=⟨bI,f,a1++args++a2⟩:=by
 unfold Kg at h ⊢;split
 ·exact⟨_,_,_,rfl,rfl⟩
 ·rename_i j;split at h
  ·exact absurd rfl (j _ _ _)
  ·cases h
theorem So(h:FX F Iow w0 g0 o0 g w tmps vm ss s)(C:QM vm)(hd:Ew vm ss o.dst D=cI ss')(p:∀ d,o.dst=cI d->d<tmps.size){m:Mk}(R:BM (AS F g s.ob) w g s.ob key m ((eL ({ tmps:=tmps,defers:=ds }:Act).eval o).run P w))
  (U:∀ j w' g',j.size=tmps.size->FX F Iow w0 g0 o0 g' w' j vm ss' (Dr s key D m)->K ⟨j,ds⟩ w'):o.upon P ⟨tmps,ds⟩ K Q ((eL ({ tmps:=tmps,defers:=ds }:Act).eval o).run P w):=by
 obtain⟨v,w',g',J,I⟩:=h.still C hd p R;rw[J,gv,Ph];exact U _ _ _ (Kx _ _ _) I
theorem qi{a:AV}(h:Du a=bI)(ob:Cp):a.dv ob=a:=by cases a<;>first|rfl|(cases h)
theorem SY:∀ (ms:List Md) (j:List AV) (ob ob':Cp),(∀ a,a∈j->Du a=bI)->Bc ob ms j=Bc ob' ms j
 | [],_,_,_,_=>rfl
 | _::_,[],_,_,_=>rfl
 | m::ms,a::j,ob,ob',h=>by
  have p:=h a (by simp);simp only[Bc];rw[SY ms j ob ob' fun x C=>h x (by simp[C])]
  congr 1
  cases m
  ·simp only[EZ];rw[qi p,qi p]
  ·cases a<;>first|rfl|(cases p)
  ·cases a<;>first|rfl|(cases p)
theorem oL{T:Kc}{f:Nat}{j:List AV}{ob ob':Cp}(h:∀ a,a∈j->Du a=bI):DI T ob ⟨bI,f,j⟩=DI T ob' ⟨bI,f,j⟩:=by
 simp only[DI];cases T f with
 | none=>rfl
 | some C=>simp only[Zn];rw[SY C.modes j ob ob' h]
theorem xR{b:Bool}{m:Mk}(h:(OI b m).ok=bI):b=bI∧OI b m=m:=by
 unfold OI at h ⊢;rw[AM] at h ⊢;split at h
 ·rename_i j;simp only[h9,gg] at j;rw[if_pos (by simp[j.1,j.2.1,j.2.2])];refine⟨j.1,?_⟩;cases m
  simp only at j ⊢;rw[j.2.1]
 ·cases h
theorem tq{T:Kc}{s:St}{key:Nat}{D:Ji}{a:Jc}(j:(Cu T s key D (.flat a)).ok=bI):Cu T s key D (.flat a)=Cu T s key D a:=by
 simp only[Cu] at j ⊢;obtain⟨_,hm⟩:=IL j;obtain⟨R,J⟩:=xR hm;rw[J] at hm ⊢;have hs:∀ x,x∈FZ a->Du (rd s x)=true:=fun x p=>bR.1 R x p
 cases a<;>simp only[Jv] at hm ⊢<;>(try (cases hm;done))
 case callp f args=>
  rw[oL (ob':=s.ob) fun y I=>by
   obtain⟨x,p,rfl⟩:=gf.1 I;exact hs x p]
 case pur b=>
  cases b<;>simp only[Jv] at hm ⊢<;>(try (cases hm;done))
  rfl
 case len st x=>
  have C:=hs x (by simp[FZ,BO])
  have e:AQ (rd s) [] key (.len st x)=AQ (rd s) s.ob key (.len st x):=by
   simp only[AQ];revert C;generalize rd s x=y;intro C;cases y<;>first|rfl|(cases C)
  show Dr s key D (AQ (rd s) [] key (.len st x))=Dr s key D (AQ (rd s) s.ob key (.len st x));rw[e]
 all_goals rfl
theorem pT{T:Kc}{s:St}{key:Nat}{a:Jc}:KP T s key a=Qu T (rd s) s.ob key a:=by cases a<;>rfl
theorem xb{ob ob':Cp}{a:AV}(h:∀ k,k∈a.key1->AK k ob=AK k ob'):a.dv1 ob=a.dv1 ob':=by
 cases a<;>(try rfl)
 ·rename_i k;simp only[AV.dv1];rw[h k (by simp[AV.key1])]
 ·rename_i k i off;simp only[AV.dv1];rw[h k (by simp[AV.key1])]
theorem AKQ{ob ob':Cp}{a:AV}(h:∀ k,k∈a.keys->AK k ob=AK k ob'):a.dv ob=a.dv ob':=by
 cases a<;>(try rfl)
 ·rename_i f fi ca;simp only[AV.keys,j6,bS] at h;simp only[AV.dv];rw[bN (l:=fi) (g:=AV.dv1 ob') fun x j=>xb fun k p=>h k ⟨x,.inl j,p⟩,bN (l:=ca) (g:=AV.dv1 ob') fun x j=>xb fun k p=>h k ⟨x,.inr j,p⟩]
 ·rename_i k;simp only[AV.dv];rw[h k (by simp[AV.keys])]
 ·rename_i k i off;simp only[AV.dv];rw[h k (by simp[AV.keys])]
theorem kh{ob ob':Cp}{a:AV}(h:∀ k,k∈a.keys->AK k ob=AK k ob'):LA ob a=LA ob' a:=by
 cases a<;>(try rfl)
 ·rename_i k;simp only[LA];rw[h k (by simp[AV.keys])]
 ·rename_i k i off;cases off<;>(try rfl)
  simp only[LA];rw[h k (by simp[AV.keys])]
theorem Wu:∀ (ms:List Md) (j:List AV) {ob ob':Cp},(∀ a,a∈j->∀ k,k∈a.keys->AK k ob=AK k ob')->Bc ob ms j=Bc ob' ms j
 | [],_,_,_,_=>rfl
 | _::_,[],_,_,_=>rfl
 | m::ms,a::j,ob,ob',h=>by
  simp only[Bc];rw[Wu ms j fun x p=>h x (by simp[p])]
  congr 1
  cases m
  ·exact AKQ (h a (by simp))
  ·exact kh (h a (by simp))
  ·exact kh (h a (by simp))
theorem ld{T:Kc}{f:Nat}{j:List AV}{ob ob':Cp}(h:∀ a,a∈j->∀ k,k∈a.keys->AK k ob=AK k ob'):DI T ob ⟨bI,f,j⟩=DI T ob' ⟨bI,f,j⟩:=by
 simp only[DI];cases T f with
 | none=>rfl
 | some C=>simp only[Zn];rw[Wu C.modes j h]
theorem jb{r:Src->AV}{ob ob':Cp}{key:Nat}{a:Jc}(h:∀ x,x∈BO a->∀ k,k∈(r x).keys->AK k ob=AK k ob'):AQ r ob key a=AQ r ob' key a:=by
 cases a<;>(try rfl)
 case load agg sz p=>
  have j:=h p (by simp[BO]);simp only[AQ];revert j;generalize r p=y;intro j;cases y<;>(try rfl)
  rename_i k i off;simp only[OE];rw[j k (by simp[AV.keys])]
 case b2s x=>
  have j:=h x (by simp[BO]);simp only[AQ];revert j;generalize r x=y;intro j;cases y<;>(try rfl)
  rename_i k;simp only[XU];rw[j k (by simp[AV.keys])]
 case ixAddr sz x i=>
  have j:=h x (by simp[BO]);simp only[AQ];revert j;generalize r x=y;intro j;cases y<;>(try rfl)
  rename_i k;simp only[LT];rw[j k (by simp[AV.keys])]
 case len st x=>
  have j:=h x (by simp[BO]);simp only[AQ];revert j;generalize r x=y;intro j;cases y<;>(try rfl)
  rename_i k;simp only[XP];rw[j k (by simp[AV.keys])]
theorem vL{T:Kc}{r:Src->AV}{ob ob':Cp}{key:Nat}{a:Jc}(h:∀ x,x∈EW a->∀ k,k∈(r x).keys->AK k ob=AK k ob'):KO T r ob key a=KO T r ob' key a:=by
 have hm:∀ l:List Src,(∀ x,x∈l->x∈EW a)->∀ y,y∈l.map r->∀ k,k∈y.keys->AK k ob=AK k ob':=fun l C y p=>by
  obtain⟨x,j,rfl⟩:=gf.1 p;exact h x (C x j)
 cases a<;>(try rfl)
 case callp f args=>simp only[KO];rw[ld (hm args fun x j=>j)]
 case pur b=>
  have I:∀ x,x∈BO b->∀ k,k∈(r x).keys->AK k ob=AK k ob':=h;clear h;cases b
  case callv=>rfl
  case call f args=>simp only[KO,Qu];rw[ld (hm args fun x j=>j)]
  all_goals
   simp only[KO,Qu];rw[jb I]
 all_goals
  simp only[KO];rw[jb (by simpa only[EW] using h)]
theorem US{d k:Nat}(I:k/32≠d):∀ ob:Cp,AK k (Ej d ob)=AK k ob
 | []=>rfl
 | p::r=>by
  have C:=US I r
  by_cases c:p.1/32=d
  ·have j:(p.1==k)=bX:=by rw[beq_eq_false_iff_ne];intro e;exact I (by rw[← e];exact c)
   simp only[Ej,AK,c,beq_self_eq_true,cond_true,j,cond_false,C]
  ·have:(p.1/32==d)=bX:=by simpa using c
   simp only[Ej,AK,this,cond_false,C]
theorem UR{k:Nat}:∀ (ds:List Nat) (ob:Cp),(∀ d,d∈ds->k/32≠d)->AK k (Lw ds ob)=AK k ob
 | [],_,_=>rfl
 | d::ds,ob,h=>by
  simp only[Lw];rw[UR ds _ fun e j=>h e (by simp[j]),US (h d (by simp))]
theorem kD{ds:List Nat}{a:AV}(h:Pj ds a=bI){k:Nat}(j:k∈a.keys):∀ d,d∈ds->k/32≠d:=by
 intro d hd e;simp only[Pj,h9,cA,j4] at h;have:=h.2 k j;apply this;rw[gj];exact⟨d,hd,by simpa using e.symm⟩
theorem vK{b:Bool}{ds:List Nat}{m:Mk}(h:(YS b ds m).ok=bI):b=bI∧m.hs=[]∧YS b ds m=m:=by
 unfold YS at h ⊢;rw[AM] at h ⊢;split at h
 ·rename_i j;simp only[h9,gg] at j;refine⟨j.1,j.2.1,?_⟩;rw[if_pos (by simp[j.1,j.2.1,j.2.2])];obtain⟨a,b,c⟩:=m;obtain⟨_,rfl,_⟩:=j;rfl
 ·cases h
theorem sJ{T:Kc}{s:St}{key:Nat}{D:Ji}{ks:List Nat}{a:Jc}(j:(Cu T s key D (.safe ks a)).ok=bI):Cu T s key D (.safe ks a)=Cu T s key D a:=by
 simp only[Cu] at j ⊢;obtain⟨_,hm⟩:=IL j;unfold Lk at hm ⊢;obtain⟨J,-,I⟩:=vK hm;rw[I] at hm ⊢
 have hs:∀ x,x∈EW a->∀ k,k∈(rd s x).keys->AK k (Lw ks s.ob)=AK k s.ob:=fun x p k C=>
  UR ks _ (kD (bR.1 J x p) C)
 rw[vL hs] at hm ⊢;cases a
 case pur b=>
  cases b
  case callv=>simp[KO,bad] at hm
  all_goals
   simp only[KO,Cu,pT]
 case pick=>rfl
 case callp=>rfl
 all_goals first
  | rfl
  | (simp[KO,Fy,bad] at hm;done)
theorem fZ(hT:Kq P T)(h:FX F Iow w0 g0 o0 g w tmps vm ss s)(aa:QM vm)(hd:Ew vm ss o.dst D=cI ss')(R:∀ d,o.dst=cI d->d<tmps.size){a:Jc}(C:jQ P vm ss D o.op a=bI)(I:(Cu T s key D a).ok=bI)
  (U:∀ J w' g',J.size=tmps.size->FX F Iow w0 g0 o0 g' w' J vm ss' (Cu T s key D a)->K ⟨J,ds⟩ w'):o.upon P ⟨tmps,ds⟩ K Q ((eL ({ tmps:=tmps,defers:=ds }:Act).eval o).run P w):=by
 have still:∀ {a:Jc},Oe P vm ss o.op a=bI->(Dr s key D (AQ (rd s) s.ob key a)).ok=bI->(∀ J w' g',J.size=tmps.size->FX F Iow w0 g0 o0 g' w' J vm ss' (Dr s key D (AQ (rd s) s.ob key a))->K ⟨J,ds⟩ w') ->
   o.upon P ⟨tmps,ds⟩ K Q ((eL ({ tmps:=tmps,defers:=ds }:Act).eval o).run P w):=fun C I U=>
  So h aa hd R (Tl (ds:=ds) (key:=key) h.toFR C (IL I).2) U
 have frozen:∀ {a:Jc} (ks:List Nat),Oe P vm ss o.op a=bI->(Dr (e9 s ks) key D (AQ (rd (e9 s ks)) (e9 s ks).ob key a)).ok=bI ->
   (∀ J w' g',J.size=tmps.size->FX F Iow w0 g0 o0 g' w' J vm ss' (Dr (e9 s ks) key D (AQ (rd (e9 s ks)) (e9 s ks).ob key a))->K ⟨J,ds⟩ w') ->
   o.upon P ⟨tmps,ds⟩ K Q ((eL ({ tmps:=tmps,defers:=ds }:Act).eval o).run P w):=fun ks C I U=>
  So (h.freezeAll ks) aa hd R (Tl (ds:=ds) (key:=key) (h.freezeAll ks).toFR C (IL I).2) U
 cases a
 case store sz p x=>
  simp only[jQ,h9,beq_iff_eq] at C;obtain⟨rfl,C⟩:=C;simp only[Cu] at I U;obtain⟨w',hr,av⟩:=(h.freezeAll (rd s x).keys).store (ds:=ds) C I;rw[hr,Oper.upon_skip,Ph]
  have b0:o.dst=ga∧ss'=ss:=by
   revert hd;cases o.dst with
   | none=>intro hd;exact⟨rfl,by simpa[Ew] using hd.symm⟩
   | some d=>intro hd;simp[Ew] at hd
  rw[b0.1];rw[b0.2] at U;exact U _ _ _ rfl av
 case app sz bytes z a x=>
  simp only[jQ] at C;simp only[Cu] at I U;obtain⟨v,w',g',hr,av⟩:=h.app (ds:=ds) aa hd R C I;rw[hr,gv,Ph];exact U _ _ _ (Kx _ _ _) av
 case call f args=>
  simp only[jQ] at C;simp only[Cu] at I U;unfold RT at C;split at C
  ·rename_i f' xs ay he;simp only[h9,beq_iff_eq] at C;obtain⟨rfl,C⟩:=C;obtain⟨e1,e2⟩:=LE (ds:=ds) h.toFR C;have ab:=Jw (P:=P) (w:=w) (o:=o) (ρ:=({ tmps:=tmps,defers:=ds }:Act).eval) (f:=f') (v1:=#[]) (v2:=#[]) rfl he;rw[gw,h8] at ab;rw[ab];exact Vf hT h aa hd R e1 e2 I U
  ·cases C
 case callp f args=>
  simp only[jQ] at C;simp only[Cu] at I U;obtain⟨bs,hm⟩:=IL I;simp only[Ky,h9,gg] at hm;unfold RT at C;split at C
  ·rename_i f' xs ay he;simp only[h9,beq_iff_eq] at C;obtain⟨rfl,C⟩:=C;obtain⟨e1,e2⟩:=LE (ds:=ds) h.toFR C;have ab:=Jw (P:=P) (w:=w) (o:=o) (ρ:=({ tmps:=tmps,defers:=ds }:Act).eval) (f:=f') (v1:=#[]) (v2:=#[]) rfl he;rw[gw,h8] at ab;rw[ab];have:=NN (s:=s) (c:=⟨bI,f',args.map (rd s)⟩) hT h e1 e2 hm.1 hm.2.2 hm.2.1;refine Jz this (fun v w' hR=>?_) (fun c w' hR=>?_) (fun w' hR=>?_)
   ·obtain⟨v',e,hw,hv⟩:=hR;cases e
    rw[Ph];refine U _ _ g (Kx _ _ _) ?_;have h1:=(h.toFR.grow hw).put aa hd R (Ky (DI T s.ob ⟨bI,f',args.map (rd s)⟩)).ok (v:=v) (a:=(DI T s.ob ⟨bI,f',args.map (rd s)⟩).v) (fun _=>hv);have au:(Dr s key D (Ky (DI T s.ob ⟨bI,f',args.map (rd s)⟩))).ob=s.ob:=by cases D<;>rfl
    exact FX.mk' (w:=w) h1 h.same (hw.mono fun _ _ c=>c.elim) (fun k hk=>h.hio k (by rw[au] at hk;exact hk)) h.fio (by rw[au];exact h.par)
   ·obtain⟨v',e,_⟩:=hR;cases e
   ·obtain⟨v',e,_⟩:=hR;cases e
  ·cases C
 case callv f args=>
  simp only[jQ] at C;simp only[Cu] at I U;unfold WV at C;split at C
  ·rename_i y xs ay he;simp only[h9] at C;obtain⟨a9,C⟩:=C;obtain⟨e1,e2⟩:=LE (ds:=ds) h.toFR C;have ao:=h.toFR.src (ds:=ds) a9;obtain⟨bo,a1,a2,ea,ax⟩:=RQ (PP I).2;rw[ea] at ao;obtain⟨v1,v2,ev,n1,n2,h1,h2⟩:=ao;rw[Jw (P:=P) (w:=w) (ρ:=({ tmps:=tmps,defers:=ds }:Act).eval) ev he];rw[ax] at I U;obtain⟨q1,q2⟩:=TW (w:=w) (g:=g) n1 e1 n2 (fun j hj=>(h1 j hj).toSR) e2 (fun j hj=>(h2 j hj).toSR);exact Vf hT h aa hd R (c:=⟨bI,bo,a1++args.map (rd s)++a2⟩) q1 q2 I U
  ·cases C
 case pick c a b=>
  simp only[jQ] at C;simp only[Cu] at I U
  have b4:SR (AS F g s.ob) w g s.ob (({ tmps:=tmps,defers:=ds }:Act).eval (match o.op with | .pick x _ _=>x|_=>.const hN)) (rd s c):=by
   unfold fG at C;split at C
   ·rename_i x y z he;simp only[h9] at C;try rw[he]
    exact h.toFR.src C.1
   ·cases C
  exact So h aa hd R (vM (ds:=ds) (key:=key) h.toFR C b4 (IL I).2) U
 case pur a=>
  simp only[Cu] at I U;obtain⟨bs,hm⟩:=IL I
  have ad:∀ (v:Value) (w':cS),(KP T s key a).hs=[]->AG (fun _=>False) w w'->SR (AS F g s.ob) w' g s.ob v (KP T s key a).v->K (({ tmps:=tmps,defers:=ds }:Act).put o.dst v) w':=by
   intro v w' hh hw hv;rw[Ph];refine U _ _ g (Kx _ _ _) ?_;have h1:=(h.toFR.grow hw).put aa hd R (KP T s key a).ok (v:=v) (a:=(KP T s key a).v) (fun _=>hv);have e:Dr s key D (KP T s key a)=BE s (KP T s key a).ok (KP T s key a).v D:=by unfold Dr;rw[hh];rfl
   have au:(BE s (KP T s key a).ok (KP T s key a).v D).ob=s.ob:=by cases D<;>rfl
   rw[e];exact FX.mk' (w:=w) h1 h.same (hw.mono fun _ _ c=>c.elim) (fun k hk=>h.hio k (by rw[au] at hk;exact hk)) h.fio (by rw[au];exact h.par)
  have a0:Ax a=bI->Oe P vm ss o.op a=bI->KP T s key a=Ky (SP (AQ (rd s) s.ob key a))->o.upon P ⟨tmps,ds⟩ K Q ((eL ({ tmps:=tmps,defers:=ds }:Act).eval o).run P w):=by
   intro hg C he;rw[he] at hm ad;simp only[Ky,h9] at hm ad;obtain⟨v,w',hr,hw,hv⟩:=BM.frz h.toFR (Tl (ds:=ds) (key:=key) h.toFR C hm.1);rw[hr,gv];exact ad v w' trivial hw hv
  cases a
  case call f args=>
   simp only[jQ] at C;simp only[KP,Ky,h9,gg] at hm ad;unfold RT at C;split at C
   ·rename_i f' xs ay he;simp only[h9,beq_iff_eq] at C;obtain⟨rfl,C⟩:=C;obtain⟨e1,e2⟩:=LE (ds:=ds) h.toFR C;have ab:=Jw (P:=P) (w:=w) (o:=o) (ρ:=({ tmps:=tmps,defers:=ds }:Act).eval) (f:=f') (v1:=#[]) (v2:=#[]) rfl he;rw[gw,h8] at ab;rw[ab];have:=NN (s:=s) (c:=⟨bI,f',args.map (rd s)⟩) hT h e1 e2 hm.1 hm.2.2 hm.2.1;refine Jz this (fun v w' hR=>?_) (fun c w' hR=>?_) (fun w' hR=>?_)
    ·obtain⟨v',e,hw,hv⟩:=hR;cases e;exact ad _ _ trivial hw hv
    ·obtain⟨v',e,_⟩:=hR;cases e
    ·obtain⟨v',e,_⟩:=hR;cases e
   ·cases C
  case callv f args=>
   simp only[jQ] at C;simp only[KP,Ky,h9,gg] at hm ad;unfold WV at C;split at C
   ·rename_i y xs ay he;simp only[h9] at C;obtain⟨a9,C⟩:=C;obtain⟨e1,e2⟩:=LE (ds:=ds) h.toFR C;have ao:=h.toFR.src (ds:=ds) a9
    have b1:(Kg (args.map (rd s)) (rd s f)).ok=bI:=by
     have:=hm.1;simp only[DI,Gq,h9] at this;exact this.1
    obtain⟨bo,a1,a2,ea,ax⟩:=RQ b1;rw[ea] at ao;obtain⟨v1,v2,ev,n1,n2,h1,h2⟩:=ao;rw[Jw (P:=P) (w:=w) (ρ:=({ tmps:=tmps,defers:=ds }:Act).eval) ev he];rw[ax] at hm ad;obtain⟨q1,q2⟩:=TW (w:=w) (g:=g) n1 e1 n2 (fun j hj=>(h1 j hj).toSR) e2 (fun j hj=>(h2 j hj).toSR);have:=NN (s:=s) (c:=⟨bI,bo,a1++args.map (rd s)++a2⟩) hT h q1 q2 hm.1 hm.2.2 hm.2.1;refine Jz this (fun v w' hR=>?_) (fun c w' hR=>?_) (fun w' hR=>?_)
    ·obtain⟨v',e,hw,hv⟩:=hR;cases e;exact ad _ _ trivial hw hv
    ·obtain⟨v',e,_⟩:=hR;cases e
    ·obtain⟨v',e,_⟩:=hR;cases e
   ·cases C
  all_goals
   simp only[jQ,h9] at C;first
   | exact a0 C.1 C.2 rfl
   | exact absurd C.1 j1
 case callw f args=>simp[Cu,fail] at I
 case flat b=>
  have e:=tq I;rw[e] at I U;exact fZ hT h aa hd R (by simpa only[jQ] using C) I U
 case trunc sz x hi=>
  simp only[jQ] at C;simp only[Cu] at I U;obtain⟨v,w',g',hr,av⟩:=h.trunc (ds:=ds) aa hd R C I;rw[hr,gv,Ph];exact U _ _ _ (Kx _ _ _) av
 case movz x=>exact frozen (rd s x).keys (a:=.mov x) (by simpa only[jQ] using C) I U
 case safe ks b=>
  have e:=sJ I;rw[e] at I U;exact fZ hT h aa hd R (by simpa only[jQ] using C) I U
 case box x=>exact frozen (rd s x).keys (a:=.box x) C I U
 case build z ps=>exact frozen _ (a:=.build z ps) C I U
 case mkSl sz z n ps=>exact frozen _ (a:=.mkSl sz z n ps) C I U
 case slice sz x lo hi=>exact frozen _ (a:=.slice sz x lo hi) C I U
 all_goals
  simp only[jQ] at C;simp only[Cu] at I U;exact still C I U
end
def cG(P:e8)(vm ss:List Nat)(op:Op)(a:Jc):Bool:=Ax a&&Oe P vm ss op a
def yi(P:e8)(vm ss:List Nat)(op:Op)(a:Jc):Bool :=
 match a with
 | .call f args=>RT vm ss f args op
 | .callv f args=>WV vm ss f args op
 | .callw f args=>RT vm ss f args op
 | .pick c a b=>fG vm ss c a b op
 | a=>cG P vm ss op a
def gh(ops:Array iS)(vm ss:List Nat):Option (Nat×Bool)->Option (Src×Bool)->Bool
 | none,ga=>bI
 | some (j,w),cI (x,w')=>w==w'&&(match (ops[j]?).bind (·.dst) with
  | some t=>BU vm ss (.tmp t) x
  | none=>bX)
 | _,_=>bX
def qj(n:Nat):Option Nat->Bool
 | some d=>decide (d<n)
 | none=>bI
def gV(P:e8)(n:Nat)(ops:Array iS)(vm ss:List Nat)(o:iS)(i:Mb):Option (List Nat) :=
 bif qj n o.dst&&(gh ops vm ss o.guard i.guard&&(match i.guard with
  | none=>jQ P vm ss i.dst o.op i.op
  | some _=>yi P vm ss o.op i.op)) then Ew vm ss o.dst i.dst else ga
def OL(P:e8)(n:Nat)(ops:Array iS)(vm:List Nat):List Nat->List iS->List Mb->Option (List Nat)
 | ss,[],[]=>cI ss
 | ss,o::os,i::is=>match gV P n ops vm ss o i with
  | some ss'=>OL P n ops vm ss' os is
  | none=>ga
 | _,_,_=>ga
section
variable {F Iow:Nat->Prop}{w0:cS}{g0:Gh}{o0:Cp}{g:Gh}{w w':cS}{tmps:Array Value}{ds:List hE}{vm ss ss':List Nat}{s:St}{P:e8}{o:iS}{key:Nat}{T:Kc}{D:Ji}
 {K:Act->cS->Prop} {Q:lf->Act->cS->Prop} {ops:Array iS} {n:Nat} {i:Mb}
theorem tb(h:FR F g w tmps vm ss s){j t:Nat}{x:Src}(hd:(ops[j]?).bind (·.dst)=cI t)(J:BU vm ss (.tmp t) x=bI)(C:RF (rd s x)=bI)(p:Bool):
  (ka ops tmps j==cI p)=kv p (rd s x):=by
 have I:=h.src (ds:=[]) J
 have R:t<tmps.size:=by
  have hm:∀ {l:List Nat} {m:Nat},l[m]? = cI t->t∈l:=fun h=>iN h
  cases x with
  | v m=>simp only[BU,beq_iff_eq] at J;exact h.fit t (.inl (hm J))
  | s m=>simp only[BU,beq_iff_eq] at J;exact h.fit t (.inr (hm J))
  | c a=>simp[BU] at J
 have he:tmps[t]? = cI (({ tmps:=tmps,defers:=[] }:Act).eval (.tmp t)):=by
  simp[Act.eval,agD,cL R]
 have U:ka ops tmps j=match ({ tmps:=tmps,defers:=[] }:Act).eval (.tmp t) with | .bool b=>cI b|_=>ga:=by
  unfold ka;rw[hd];simp only[obS,he];cases (({ tmps:=tmps,defers:=[] }:Act).eval (.tmp t))<;>rfl
 rw[U];revert C;generalize rd s x=a at I;intro C;cases a<;>simp only[RF] at C<;>try (cases C;done)
 case bool b=>rw[Nz I];cases b<;>cases p<;>rfl
 case opt c a=>
  cases c
  ·simp only[SR,bfT,if_false] at I;rw[I];cases p<;>rfl
  ·simp only[k3,k4] at C;cases a<;>simp only[Xo] at C<;>try (cases C;done)
   rename_i b;simp only[SR,if_true] at I;have:=Nz (ob:=s.ob) (g:=g) (I.toSR);rw[this];cases p<;>cases b<;>rfl
theorem wC(hT:Kq P T)(h:FX F Iow w0 g0 o0 g w tmps vm ss s)(b1:QM vm)(hd:Ew vm ss o.dst D=cI ss')(a6:∀ d,o.dst=cI d->d<tmps.size){a:Jc}(J:yi P vm ss o.op a=bI)(b0:∀ f l,a ≠ .callw f l)(a5:(OW s bI D (Dn T s bI key a)).ok=bI)
  (hK:∀ aa w' g',aa.size=tmps.size->FX F Iow w0 g0 o0 g' w' aa vm ss' (OW s bI D (Dn T s bI key a))->K ⟨aa,ds⟩ w'):o.upon P ⟨tmps,ds⟩ K Q ((eL ({ tmps:=tmps,defers:=ds }:Act).eval o).run P w):=by
 obtain⟨_,hm⟩:=fW a5;obtain⟨C,I,ab⟩:=hm rfl
 have U:∀ (v:Value) (w':cS),AG (fun _=>False) w w'->SR (AS F g s.ob) w' g s.ob v (Dn T s bI key a).v->K (({ tmps:=tmps,defers:=ds }:Act).put o.dst v) w':=by
  intro v w' hw hv;rw[Ph];exact hK _ _ _ (Kx _ _ _) (h.guardPut b1 hd a6 hw (fun _ _=>hv) a5)
 have hu:=h.toFR.unS
 have ret:∀ {m:Mk},m.hs=[]->BM (AS F g s.ob) w g s.ob key m ((eL ({ tmps:=tmps,defers:=ds }:Act).eval o).run P w)->m.v=(Dn T s bI key a).v->o.upon P ⟨tmps,ds⟩ K Q ((eL ({ tmps:=tmps,defers:=ds }:Act).eval o).run P w):=by
  intro m hh hp hv;obtain⟨v,w',hr,hw,ax⟩:=hp;rw[hr,gv];rcases ax with⟨_,hs⟩|⟨k,h',b,cap,e,_⟩
  ·exact U v w' hw (hv▸hs)
  ·rw[hh] at e;cases e
 have a0:∀ {m:Mk},BM (AS F g s.ob) w g s.ob key m ((eL ({ tmps:=tmps,defers:=ds }:Act).eval o).run P w)->(SP m).v=(Dn T s bI key a).v->o.upon P ⟨tmps,ds⟩ K Q ((eL ({ tmps:=tmps,defers:=ds }:Act).eval o).run P w):=by
  intro m hp hv;obtain⟨v,w',hr,hw,hs⟩:=BM.frz h.toFR hp;rw[hr,gv];exact U v w' hw (hv▸hs)
 have still:Ax a=bI->Oe P vm ss o.op a=bI->Dn T s bI key a=Gq (Ax a&&(BO a).all fun x=>DQ bI (rd s x)) (SP (AQ (VX s) s.ob key a))->o.upon P ⟨tmps,ds⟩ K Q ((eL ({ tmps:=tmps,defers:=ds }:Act).eval o).run P w):=by
  intro hg J he;rw[he] at C I;simp only[Gq,h9,bR] at C I;obtain⟨⟨_,R⟩,au⟩:=C;have a9:AQ (VX s) s.ob key a=AQ (rd (unS s)) s.ob key a:=Hy hg fun x hx=>(Yd (R x hx)).symm
  rw[a9] at au;exact a0 (m:=AQ (rd (unS s)) s.ob key a) (Tl (ds:=ds) (key:=key) hu J au) (by rw[he,a9];rfl)
 have ac:∀ {b8:List Src},(b8.all fun x=>DQ bI (rd s x))=bI->b8.map (VX s)=b8.map (rd (unS s)):=fun R=>by
  simp only[bR] at R;exact bN fun x hx=>(Yd (R x hx)).symm
 cases a
 case pick c x y=>
  simp only[yi] at J;simp only[Dn,Gq,h9] at C I
  have b3:SR (AS F g s.ob) w g s.ob (({ tmps:=tmps,defers:=ds }:Act).eval (match o.op with | .pick x _ _=>x|_=>.const hN)) (VX s c):=by
   rw[← Yd C.1];unfold fG at J;split at J
   ·rename_i p q z he;simp only[h9] at J;try rw[he]
    exact hu.src J.1
   ·cases J
  exact ret (m:=NV bI (rd s x) (rd s y) (VX s c)) I (vM (ds:=ds) (key:=key) h.toFR J b3 C.2) rfl
 case call f args=>
  simp only[yi] at J;simp only[Dn,Gq,h9] at C I ab U;unfold RT at J;split at J
  ·rename_i f' xs be he;simp only[h9,beq_iff_eq] at J;obtain⟨rfl,J⟩:=J;rw[ac (by simpa[BO] using C.1)] at C I ab U;obtain⟨e1,e2⟩:=LE (ds:=ds) hu J;have a7:=Jw (P:=P) (w:=w) (o:=o) (ρ:=({ tmps:=tmps,defers:=ds }:Act).eval) (f:=f') (v1:=#[]) (v2:=#[]) rfl he;rw[gw,h8] at a7;rw[a7];have:=NN (s:=unS s) (c:=⟨bI,f',args.map (rd (unS s))⟩) hT h.unS e1 e2 C.2 ab I;refine Jz this (fun v w' hR=>?_) (fun c w' hR=>?_) (fun w' hR=>?_)
   ·obtain⟨v',e,hw,hv⟩:=hR;cases e;exact U _ _ hw hv
   ·obtain⟨v',e,_⟩:=hR;cases e
   ·obtain⟨v',e,_⟩:=hR;cases e
  ·cases J
 case callv f args=>
  simp only[yi] at J;simp only[Dn,Gq,h9] at C I ab U;unfold WV at J;split at J
  ·rename_i y xs be he;simp only[h9] at J;obtain⟨b4,J⟩:=J
   have R:DQ bI (rd s f)=bI∧(args.all fun x=>DQ bI (rd s x))=bI:=by
    simpa[BO] using C.1
   rw[ac R.2,← Yd R.1] at C I ab U;obtain⟨e1,e2⟩:=LE (ds:=ds) hu J;have a3:=hu.src (ds:=ds) b4
   have a8:(Kg (args.map (rd (unS s))) (rd (unS s) f)).ok=bI:=by
    have:=C.2;simp only[DI,Gq,h9] at this;exact this.1
   obtain⟨b5,a1,a2,ea,bb⟩:=RQ a8;rw[ea] at a3;obtain⟨v1,v2,ev,n1,n2,h1,h2⟩:=a3;rw[Jw (P:=P) (w:=w) (ρ:=({ tmps:=tmps,defers:=ds }:Act).eval) ev he];rw[bb] at C I ab U;obtain⟨q1,q2⟩:=TW (w:=w) (g:=g) n1 e1 n2 (fun j hj=>(h1 j hj).toSR) e2 (fun j hj=>(h2 j hj).toSR);have:=NN (s:=unS s) (c:=⟨bI,b5,a1++args.map (rd (unS s))++a2⟩) hT h.unS q1 q2 C.2 ab I;refine Jz this (fun v w' hR=>?_) (fun c w' hR=>?_) (fun w' hR=>?_)
   ·obtain⟨v',e,hw,hv⟩:=hR;cases e;exact U _ _ hw hv
   ·obtain⟨v',e,_⟩:=hR;cases e
   ·obtain⟨v',e,_⟩:=hR;cases e
  ·cases J
 case callw f l=>exact absurd rfl (b0 f l)
 all_goals
  have ad:cG P vm ss o.op _=true:=J;unfold cG at ad;rw[h9] at ad;exact still ad.1 ad.2 (by first|rfl|(exact absurd ad.1 j1))
theorem wB(hT:Kq P T)(h:FX F Iow w0 g0 o0 g w tmps vm ss s)(aa:QM vm)(hd:Ew vm ss o.dst D=cI ss')(J:∀ d,o.dst=cI d->d<tmps.size){f:Nat}{args:List Src}(C:RT vm ss f args o.op=bI)
  (I:(Km T s key D ⟨args.all fun x=>DQ bI (rd s x),f,args.map (VX s)⟩).ok=bI)
  (hK:∀ j w' g',j.size=tmps.size->FX F Iow w0 g0 o0 g' w' j vm ss' (Km T s key D ⟨args.all fun x=>DQ bI (rd s x),f,args.map (VX s)⟩)->K ⟨j,ds⟩ w'):o.upon P ⟨tmps,ds⟩ K Q ((eL ({ tmps:=tmps,defers:=ds }:Act).eval o).run P w):=by
 have U:=(PP I).2;have p:(args.all fun x=>DQ bI (rd s x))=true:=U
 have e0:args.map (VX s)=args.map (rd (unS s)):=by
  simp only[bR] at p;exact bN fun x hx=>(Yd (p x hx)).symm
 unfold RT at C;split at C
 ·rename_i f' xs ad he;simp only[h9,beq_iff_eq] at C;obtain⟨rfl,C⟩:=C;obtain⟨e1,e2⟩:=LE (ds:=ds) h.toFR.unS C;rw[← e0] at e1 e2;have R:=Jw (P:=P) (w:=w) (o:=o) (ρ:=({ tmps:=tmps,defers:=ds }:Act).eval) (f:=f') (v1:=#[]) (v2:=#[]) rfl he;rw[gw,h8] at R;rw[R];exact Vf hT h aa hd J (c:=⟨args.all fun x=>DQ bI (rd s x),f',args.map (VX s)⟩) e1 e2 I hK
 ·cases C
theorem Ud(hT:Kq P T)(h:FX F Iow w0 g0 o0 g w tmps vm ss s)(ad:QM vm)(hn:tmps.size=n)(hc:gV P n ops vm ss o i=cI ss')(I:(Db T s i).ok=bI)
  (hK:∀ p w' g',p.size=n->FX F Iow w0 g0 o0 g' w' p vm ss' (Db T s i)->K ⟨p,ds⟩ w') :
  if hX o (ka ops (⟨tmps,ds⟩:Act).tmps) then o.wp P ⟨tmps,ds⟩ w K Q else K ((⟨tmps,ds⟩:Act).put o.dst hN) w:=by
 have a2:∀ {c:Bool} {x:Option (List Nat)},(bif c then x else ga)=cI ss'->c=bI∧x=cI ss':=by intro c x;cases c<;>simp
 unfold gV at hc;obtain⟨hb,hc⟩:=a2 hc
 ·simp only[h9] at hb;obtain⟨au,C,U⟩:=hb;have R:∀ d,o.dst=cI d->d<tmps.size:=fun d e=>by rw[e] at au;simpa[qj,hn] using au
  cases hg:i.guard with
  | none=>
   rw[hg] at C U
   have ab:o.guard=ga:=by
    revert C;cases o.guard with
    | none=>intro _;rfl
    | some q=>intro C;simp[gh] at C
   rw[if_pos (by simp[hX,ab])];simp only[Db,WE,hg] at I hK;exact fZ hT h ad hc R U I fun p w' g' e ac=>hK p w' g' (by rw[e,hn]) ac
  | some gd=>
   obtain⟨x,a5⟩:=gd;rw[hg] at C U;simp only[Db,WE,hg] at I hK;cases ab:o.guard with
   | none=>rw[ab] at C;simp[gh] at C
   | some q=>
    obtain⟨j,J⟩:=q;rw[ab] at C;simp only[gh,h9,beq_iff_eq] at C;obtain⟨rfl,C⟩:=C;split at C
    ·rename_i t ht;have h':=h.setOk (s.ok&&RF (rd s x))
     have a1:RF (rd s x)=bI:=by
      have:=kl I;simp at this;exact this.2
     have hw:hX o (ka ops tmps)=kv J (rd s x):=by
      unfold hX;rw[ab];exact tb h.toFR ht C a1 J
     have a0:hX o (ka ops (⟨tmps,ds⟩:Act).tmps)=kv J (rd s x):=hw;rw[a0];cases hv:kv J (rd s x) with
     | true=>
      rw[hv] at I hK;rw[if_pos rfl]
      by_cases hw:∃ f l,i.op = .callw f l
      ·obtain⟨f,l,ew⟩:=hw;rw[ew] at I hK U;simp only[Mp,nZ,if_true] at I hK;exact wB hT h' ad hc R U I fun p w' g' e ac=>hK p w' g' (by rw[e,hn]) ac
      ·have aj:∀ f l,i.op ≠ .callw f l:=fun f l e=>hw ⟨f,l,e⟩
       have e1:Mp T { s with ok:=s.ok&&RF (rd s x) } i.key i.dst bI i.op=OW { s with ok:=s.ok&&RF (rd s x) } bI i.dst (Dn T { s with ok:=s.ok&&RF (rd s x) } bI i.key i.op):=by
        unfold Mp;split
        ·rename_i f l e;exact absurd e (aj f l)
        ·rfl
       rw[e1] at I hK;exact wC hT h' ad hc R U aj I fun p w' g' e ac=>hK p w' g' (by rw[e,hn]) ac
     | false=>
      rw[hv] at I hK;rw[if_neg (by simp),Ph]
      have e1:∃ m,Mp T { s with ok:=s.ok&&RF (rd s x) } i.key i.dst bX i.op=OW { s with ok:=s.ok&&RF (rd s x) } bX i.dst m:=by
       unfold Mp;split
       ·exact⟨Ds .any,by simp[nZ]⟩
       ·exact⟨_,rfl⟩
      obtain⟨m,e1⟩:=e1;rw[e1] at hK;exact hK _ _ _ (by rw[Kx,hn]) (h'.guardSkip ad hc R)
    ·exact absurd C j1
theorem Vz(hT:Kq P T)(I:QM vm):∀ (os:List iS) (is:List Mb) {ss:List Nat} {s:St} {g:Gh} {w:cS} {tmps:Array Value},FX F Iow w0 g0 o0 g w tmps vm ss s->tmps.size=n->OL P n ops vm ss os is=cI ss'->(GB T is s).ok=bI ->
  (∀ j w' g',j.size=n->FX F Iow w0 g0 o0 g' w' j vm ss' (GB T is s)->Q .normal ⟨j,ds⟩ w')->wpList P ops Q os ⟨tmps,ds⟩ w
 | [],[],ss,s,g,w,tmps,h,J,p,C,hK=>by
  simp only[OL,fA] at p;subst p;exact hK _ _ _ J h
 | [],_::_,_,_,_,_,_,_,_,p,_,_=>by simp[OL] at p
 | _::_,[],_,_,_,_,_,_,_,p,_,_=>by simp[OL] at p
 | o::os,i::is,ss,s,g,w,tmps,h,J,p,C,hK=>by
  simp only[OL] at p;split at p
  ·rename_i ad U;refine wpList_step fun K aa=>?_
   exact Ud hT h I J U (NL is C) fun j w' g' e R=>aa _ _ (Vz hT I os is R e p C hK)
  ·cases p
end
def Mh:AV->Bool
 | .any=>bI
 | a=>Du a
def Nb(a b:AV):Prop:=(Du a=bI->b=a)∧(Du b=bI->Du a=bI)
theorem Nb.refl(a:AV):Nb a a:=⟨fun _=>rfl,id⟩
theorem Nb.trans{a b c:AV}(h:Nb a b)(k:Nb b c):Nb a c:=⟨fun e=>by
 have j:=h.1 e;have p:=k.1 (by rw[j];exact e);rw[p,j],fun e=>h.2 (k.2 e)⟩
def Phi(φ:AV->AV):Prop:=(∀ a,Mh a=bI->φ a=a)∧∀ a,Du (φ a)=bI->Du a=bI
theorem jh{a:AV}(h:Du a=bI):Mh a=bI:=by cases a<;>simp_all [Mh,Du]
theorem Phi.nb{φ:AV->AV}(h:Phi φ)(a:AV):Nb a (φ a):=⟨fun e=>h.1 a (jh e),h.2 a⟩
theorem pU(d:Nat):Phi (Zm d):=by
 refine⟨fun a h=>?_,fun a h=>?_⟩
 ·cases a<;>simp[Mh,Du] at h<;>simp[Zm,AV.keys,AV.key1]
 ·unfold Zm at h;rw[AM] at h;split at h
  ·cases h
  ·exact h
theorem Ov(k:Nat):Phi (AV.kill k):=by
 refine⟨fun a h=>?_,fun a h=>?_⟩
 ·cases a<;>simp[Mh,Du] at h<;>simp[AV.kill,AV.names,AV.keys,AV.key1]
 ·unfold AV.kill at h;rw[AM] at h;split at h
  ·cases h
  ·exact h
theorem vw(k:Nat)(hm:Hm):Phi (AV.fz k hm):=by
 refine⟨fun a h=>?_,fun a h=>?_⟩
 ·cases a<;>simp[Mh,Du] at h<;>rfl
 ·cases a<;>simp only[AV.fz] at h<;>first|rfl|(cases h;done)|(rw[AM] at h;split at h<;>cases h)
def Ci:Ji->Bool
 | .push=>bX
 | _=>bI
section
variable {s:St}{c:Bool}{v:AV}{D:Ji}
theorem zn{φ:AV->AV}(j:Phi φ)(p:Mh v=bI)(l:List AV)(n:Nat):(l.set n v).map φ=(l.map φ).set n v:=by
 rw[l7,j.1 v p]
theorem UE{φ:AV->AV}(j:Phi φ)(p:Mh v=bI)(C:Ci D=bI)(ob:Cp):
  ({ vs:=(BE s c v D).vs.map φ,st:=(BE s c v D).st.map φ,ob:=ob,ok:=(BE s c v D).ok }:St)=BE { vs:=s.vs.map φ,st:=s.st.map φ,ob:=ob,ok:=s.ok } c v D:=by
 cases D<;>simp only[BE,zn j p]
 cases C
theorem Gn:(BE s c v D).ob=s.ob:=by cases D<;>rfl
theorem vk(b:Bool):({ BE s c v D with ok:=(BE s c v D).ok&&b }:St)=BE { s with ok:=s.ok&&b } c v D:=by
 cases D<;>simp only[BE,hP]
theorem jv(j:Mh v=bI)(p:Ci D=bI)(k:Nat)(h:Option Hm):j9 (BE s c v D) k h=BE (j9 s k h) c v D:=by
 cases h with
 | none=>rfl
 | some h=>simp only[j9,Gn];exact UE (vw k h) j p _
theorem GI(j:Mh v=bI)(p:Ci D=bI):∀ (ks:List Nat) (s:St),e9 (BE s c v D) ks=BE (e9 s ks) c v D
 | [],_=>rfl
 | k::r,s=>by
  simp only[e9,Gn];rw[jv j p];exact GI j p r _
theorem vn(j:Mh v=bI)(p:Ci D=bI)(k:Nat):l8 (BE s c v D) k=BE (l8 s k) c v D:=by
 simp only[l8,Gn];exact UE (Ov k) j p _
theorem sU(j:Mh v=bI)(p:Ci D=bI)(d:Nat):clear (BE s c v D) d=BE (clear s d) c v D:=by
 unfold Go.Proofs.YtegmpdmpgmpiaaaGreatDoor.clear;rw[Gn,AM,AM];split
 ·exact UE (pU d) j p _
 ·rfl
theorem mz(hs:Cp):Sk (BE s c v D) hs=BE (Sk s hs) c v D:=by
 cases D<;>rfl
theorem Vp(ob:Cp):({ BE s c v D with ob:=ob }:St)=BE { s with ob:=ob } c v D:=by cases D<;>rfl
theorem GW:fail (BE s c v D)=BE (fail s) c v D:=by cases D<;>simp[fail,BE]
def Qr:Ji->Ji->Bool
 | .var n,.var m=>n==m
 | .slot n,.slot m=>n==m
 | _,_=>bX
theorem TA(D E:Ji):Qr D E=Qr E D:=by
 cases D<;>cases E<;>first|rfl|(simp only[Qr];rw[Bool.eq_iff_iff,beq_iff_eq,beq_iff_eq];exact eq_comm)
theorem UD{E:Ji}{j:Bool}{a:AV}(p:Ci D=bI)(C:Ci E=bI)(h:Qr D E=bX):BE (BE s c v D) j a E=BE (BE s j a E) c v D:=by
 have I:(s.ok&&c&&j)=(s.ok&&j&&c):=hP _ _ _
 cases D<;>simp only[Ci] at p<;>(try (cases p;done))<;>cases E<;>simp only[Ci] at C<;>(try (cases C;done))<;>simp only[BE,I] <;>
  (try (simp only[Qr,beq_eq_false_iff_ne] at h;rw[l6 _ _ h]))
def Kp(D E:Ji):Bool:=Ci E && !Qr D E
theorem vj(I:Mh v=bI)(p:Ci D=bI){E:Ji}(j:Kp D E=bI)(key:Nat)(C:Bool)(a:AV)(hs:Cp):UG (BE s c v D) key E C a hs=BE (UG s key E C a hs) c v D:=by
 simp only[Kp,h9,cA] at j;cases hs with
 | nil=>exact UD p j.1 j.2
 | cons h hs=>
  simp only[UG];rw[sU I p,mz];exact UD p j.1 j.2
theorem LO(j:Mh v=bI)(p:Ci D=bI){E:Ji}(C:Kp D E=bI)(key:Nat)(m:Mk):Dr (BE s c v D) key E m=BE (Dr s key E m) c v D:=vj j p C key _ _ _
theorem fV(C:Mh v=bI)(I:Ci D=bI):∀ (ms:List Md) (j os:List AV) (s:St),Ag (BE s c v D) ms j os=BE (Ag s ms j os) c v D:=by
 intro ms
 induction ms with
 | nil=>
  intro j os s;cases j<;>cases os<;>simp only[Ag]<;>first|rfl|exact GW
 | cons m ms p=>
  intro j os s;cases m<;>cases j<;>(try (simp only[Ag];exact GW))<;>cases os<;>(try (simp only[Ag];exact GW))
  ·simp only[Ag];exact p _ _ _
  ·rename_i a j o os;cases a<;>(try (simp only[Ag];exact GW))
   ·cases o<;>(try (simp only[Ag];exact GW))
    simp only[Ag,Gn,Vp];exact p _ _ _
   ·rename_i k i off;cases off<;>cases o<;>(try (simp only[Ag];exact GW))
    simp only[Ag,Gn,Vp];exact p _ _ _
  ·rename_i a j o os;cases a<;>(try (simp only[Ag];exact GW))
   ·simp only[Ag];exact p _ _ _
   ·simp only[Ag];rw[vn C I];exact p _ _ _
theorem vi(j:Mh v=bI)(p:Ci D=bI)(C:Ar)(args:List AV):Tf C (BE s c v D) args=BE (Tf C s args) c v D:=by
 unfold Tf;rw[AM,AM];split
 ·rfl
 ·exact GI j p _ _
theorem sV(j:Mh v=bI)(p:Ci D=bI){E:Ji}(I:Kp D E=bI)(key:Nat)(args:List AV)(C:Option Ar):OM (BE s c v D) key E args C=BE (OM s key E args C) c v D:=by
 cases C with
 | none=>exact GW
 | some C=>
  simp only[OM,PR,Gn];rw[vi j p,fV j p,LO j p I]
theorem TE{T:Kc}(j:Mh v=bI)(p:Ci D=bI){E:Ji}(C:Kp D E=bI)(key:Nat)(q:Cal):Km T (BE s c v D) key E q=BE (Km T s key E q) c v D:=by
 unfold Km;rw[vk];exact sV j p C _ _ _
theorem nB(sz:Nat)(x p:AV):LJ (BE s c v D) sz x p=BE (LJ s sz x p) c v D:=by
 cases p<;>(try exact GW)
 rename_i k i off;simp only[LJ,Gn];cases AK k s.ob with
 | none=>exact GW
 | some h=>
  simp only[Sn,Tk,Gn];cases D<;>simp only[BE,hP]
theorem vr(C:Mh v=bI)(p:Ci D=bI){E:Ji}(j:Kp D E=bI)(key sz bytes:Nat)(y:Ap)(a:AV):TX (BE s c v D) key E sz bytes y a=BE (TX s key E sz bytes y a) c v D:=by
 cases a<;>(try exact GW)
 ·exact LO C p j _ _
 ·rename_i k;simp only[TX,Gn];cases AK k s.ob with
  | none=>exact GW
  | some h=>
   simp only[WX];rw[UE (Ov k) C p];simp only[Kp,h9,cA] at j;simp only[Gn];exact UD p j.1 j.2
end
theorem nA{s:St}{c:Bool}{v:AV}{D:Ji}(C:Mh v=bI)(p:Ci D=bI){E:Ji}(j:Kp D E=bI)(sz:Nat)(n:Int)(a:AV):LI (BE s c v D) E sz n a=BE (LI s E sz n a) c v D:=by
 cases a<;>(try exact GW)
 rename_i k;simp only[LI,Gn];cases AK k s.ob with
 | none=>exact GW
 | some h=>
  simp only[VZ];rw[UE (Ov k) C p];simp only[Kp,h9,cA] at j;simp only[Gn];exact UD p j.1 j.2
def WH:Ji->Src->Bool
 | .var n,.v m=>n==m
 | .slot n,.s m=>n==m
 | _,_=>bX
theorem Pg{s:St}{c:Bool}{a:AV}{D:Ji}{x:Src}(p:Ci D=bI)(j:WH D x=bX):rd (BE s c a D) x=rd s x:=by
 cases D<;>simp only[Ci] at p<;>(try (cases p;done))<;>cases x<;>simp only[BE,rd]<;>simp only[WH,beq_eq_false_iff_ne] at j
 ·rename_i n m;simp only[k7,hG j]
 ·rename_i n m;simp only[k7,hG j]
def CM:Jc->List Src
 | .store _ p x=>[p,x]
 | .app _ _ _ a x=>[a,x]
 | .callp _ args=>args
 | .callw _ args=>args
 | .pur a=>BO a
 | .pick c a b=>[c,a,b]
 | .mkFn _ fi ca=>fi++ca
 | .flat a=>FZ a
 | .safe _ a=>EW a
 | a=>BO a
section
variable {s:St}{c:Bool}{v:AV}{D:Ji}{T:Kc}
theorem Mu{r r':Src->AV}{ob:Cp}{d:Nat}{a:Jc}(h:∀ x,x∈CM a->r x=r' x):AQ r ob d a=AQ r' ob d a:=by
 cases a<;>simp only[CM,BO] at h<;>(try (simp only[AQ];done))
 case mkFn f fi ca=>
  simp only[AQ];rw[bN (l:=fi) fun x j=>h x (bS.2 (.inl j)),bN (l:=ca) fun x j=>h x (bS.2 (.inr j))]
 all_goals exact Hy rfl (by simpa only[BO] using h)
theorem nD{s s':St}{key:Nat}{a:Jc}(j:s'.ob=s.ob)(h:∀ x,x∈BO a->rd s' x=rd s x):KP T s' key a=KP T s key a:=by
 cases a
 case call f args=>simp only[BO] at h;simp only[KP,j];rw[bN h]
 case callv f args=>
  simp only[BO] at h;simp only[KP,j];rw[bN (l:=args) fun x p=>h x (iR _ p),h f (by simp)]
 all_goals first
  | (simp only[KP,j];rw[Hy rfl h];done)
  | rfl
theorem lG{r r':Src->AV}{key:Nat}{a:Jc}(h:∀ x,x∈FZ a->r x=r' x):Jv T r key a=Jv T r' key a:=by
 cases a<;>simp only[FZ] at h<;>(try rfl)
 case callp f args=>simp only[Jv];rw[bN h]
 case pur b=>
  cases b<;>(try rfl)
  rename_i sz x lo hi;simp only[Jv];rw[Hy (a:=.slice sz x lo hi) rfl h]
 all_goals
  simp only[Jv];rw[Hy rfl h]
theorem Wz{s s':St}{key:Nat}{a:Jc}(h:∀ x,x∈FZ a->rd s' x=rd s x):OI ((FZ a).all fun x=>Du (rd s' x)) (Jv T (rd s') key a)=OI ((FZ a).all fun x=>Du (rd s x)) (Jv T (rd s) key a):=by
 rw[lG h]
 congr 1
 have:∀ l:List Src,(∀ x,x∈l->rd s' x=rd s x)->(l.all fun x=>Du (rd s' x))=l.all fun x=>Du (rd s x):=by
  intro l j
  induction l with
  | nil=>rfl
  | cons y l p=>simp only[ic];rw[j y (by simp),p fun x C=>j x (by simp[C])]
 exact this _ h
theorem Yg{r r':Src->AV}{ob:Cp}{d:Nat}{a:Jc}(h:∀ x,x∈BO a->r x=r' x):Qu T r ob d a=Qu T r' ob d a:=by
 by_cases j:Ax a=bI
 ·cases a
  case call f args=>
   simp only[BO] at h;simp only[Qu];rw[bN h]
  case callv f args=>
   simp only[BO] at h;simp only[Qu];rw[bN (l:=args) fun x C=>h x (iR _ C),h f (by simp)]
  all_goals first
   | (exfalso;simp[Ax] at j;done)
   | (simp only[Qu];rw[Hy j h])
 ·have p:Ax a=bX:=by simpa using j
  cases a
  case call f args=>simp[Ax] at j
  case callv f args=>simp[Ax] at j
  all_goals (simp only[Qu];rw[p];rfl)
theorem Wp{r r':Src->AV}{ob:Cp}{key:Nat}{a:Jc}(h:∀ x,x∈EW a->r x=r' x):KO T r ob key a=KO T r' ob key a:=by
 cases a
 case pur b=>
  have j:∀ x,x∈BO b->r x=r' x:=h;clear h;cases b
  case callv=>rfl
  all_goals
   simp only[KO];exact Yg j
 case pick c x y=>
  simp only[EW] at h;simp only[KO];rw[h c (by simp),h x (by simp),h y (by simp)]
 case callp f args=>
  simp only[EW] at h;simp only[KO];rw[bN h]
 case mkFn f fi ca=>
  simp only[KO];rw[Mu (a:=.mkFn f fi ca) h]
 all_goals first
  | rfl
  | (simp only[KO];rw[Mu (by simpa only[CM,EW] using h)])
theorem Wo{r r':Src->AV}{ob:Cp}{key:Nat}{ds:List Nat}{a:Jc}(h:∀ x,x∈EW a->r x=r' x):Lk T r ob key ds a=Lk T r' ob key ds a:=by
 unfold Lk;rw[Wp h]
 congr 1
 have:∀ l:List Src,(∀ x,x∈l->r x=r' x)->(l.all fun x=>Pj ds (r x))=l.all fun x=>Pj ds (r' x):=by
  intro l j
  induction l with
  | nil=>rfl
  | cons y l p=>simp only[ic];rw[j y (by simp),p fun x C=>j x (by simp[C])]
 exact this _ h
theorem vq(J:Mh v=bI)(C:Ci D=bI){E:Ji}(U:Kp D E=bI){key:Nat}{a:Jc}(hr:∀ x,x∈CM a->WH D x=bX):Cu T (BE s c v D) key E a=BE (Cu T s key E a) c v D:=by
 have j:∀ x,x∈CM a->∀ s c,rd (BE s c v D) x=rd s x:=fun x I s c=>Pg C (hr x I)
 have R:∀ l:List Src,(∀ x,x∈l->x∈CM a)->l.map (rd (BE s c v D))=l.map (rd s):=fun l hl=>bN fun x I=>j x (hl x I) s c
 have st:∀ b:Jc,CM b=CM a->∀ s:St,Dr (BE s c v D) key E (AQ (rd (BE s c v D)) (BE s c v D).ob key b)=BE (Dr s key E (AQ (rd s) s.ob key b)) c v D:=fun b hb s=>by
  rw[Gn,Mu (r':=rd s) fun x I=>j x (hb▸I) s c];exact LO J C U _ _
 cases a
 case store sz p x=>
  simp only[Cu];rw[j x (by simp[CM]),GI J C,j x (by simp[CM]),j p (by simp[CM])];exact nB _ _ _
 case app sz bytes z y x=>
  simp only[Cu,Gn];rw[j x (by simp[CM]),j y (by simp[CM])];exact vr J C U _ _ _ _ _
 case call f args=>
  simp only[Cu];rw[R args fun x I=>by simpa[CM,BO] using I];exact TE J C U _ _
 case callv f args=>
  simp only[Cu];rw[R args fun x I=>by simp[CM,BO,I],j f (by simp[CM,BO])];exact TE J C U _ _
 case callp f args=>
  simp only[Cu,Gn];rw[R args fun x I=>by simpa[CM] using I];exact LO J C U _ _
 case pur b=>
  simp only[Cu];rw[nD (s:=s) Gn fun x I=>j x (by simpa[CM] using I) s c];exact LO J C U _ _
 case callw f args=>exact GW
 case flat b=>
  simp only[Cu];rw[Wz (s:=s) (s':=BE s c v D) fun x I=>j x (by simpa[CM] using I) s c];exact LO J C U _ _
 case pick q x y=>
  simp only[Cu];rw[j q (by simp[CM]),j x (by simp[CM]),j y (by simp[CM])];exact LO J C U _ _
 case trunc sz x y=>
  simp only[Cu];rw[j x (by simp[CM,BO]),j y (by simp[CM,BO])];exact nA J C U _ _ _
 case movz x=>
  simp only[Cu];rw[j x (by simp[CM,BO]),GI J C];exact st (.mov x) rfl _
 case safe ks b=>
  simp only[Cu];rw[Gn,Wo (r':=rd s) fun x I=>j x (by simpa[CM] using I) s c];exact LO J C U _ _
 case box x=>
  simp only[Cu];rw[j x (by simp[CM,BO]),GI J C,j x (by simp[CM,BO])];exact LO J C U _ _
 case build z ps=>
  simp only[Cu]
  have hk:DO (BE s c v D) (.build z ps)=DO s (.build z ps):=by
   simp only[DO,l4];rw[bN fun p hq=>by rw[j p.2.2 (gf.2 ⟨p,hq,rfl⟩) s c]]
  rw[hk,GI J C];exact st _ rfl _
 case mkSl sz z n ps=>
  simp only[Cu]
  have hk:DO (BE s c v D) (.mkSl sz z n ps)=DO s (.mkSl sz z n ps):=by
   simp only[DO,l4];rw[bN fun p hq=>by rw[j p.2 (gf.2 ⟨p,hq,rfl⟩) s c]]
  rw[hk,GI J C];exact st _ rfl _
 case slice sz x lo hi=>
  simp only[Cu];rw[j x (by simp[CM,BO]),GI J C];exact st _ rfl _
 all_goals
  simp only[Cu];exact st _ rfl _
theorem vZ{s:St}{x:Src}:VX s x=(match x with | .c a=>a|x=>Jd (rd s x)):=by cases x<;>rfl
theorem ve{s s':St}{x:Src}(h:rd s' x=rd s x):VX s' x=VX s x:=by
 rw[vZ,vZ];cases x<;>simp only[h]
theorem sd{a:Jc}{x:Src}(h:x∈BO a):x∈CM a:=by
 cases a<;>first|exact h|(simp[BO] at h)
theorem TY{f g:Src->Bool}:∀ {l:List Src},(∀ x,x∈l->f x=g x)->l.all f=l.all g
 | [],_=>rfl
 | x::l,h=>by simp only[ic];rw[h x (by simp),TY fun y j=>h y (by simp[j])]
theorem ZS{s s':St}{w:Bool}{key:Nat}{a:Jc}(C:s'.ob=s.ob)(h:∀ x,x∈CM a->rd s' x=rd s x):Dn T s' w key a=Dn T s w key a:=by
 have I:∀ x,x∈CM a->VX s' x=VX s x:=fun x p=>ve (h x p)
 have j:((BO a).all fun x=>DQ w (rd s' x))=(BO a).all fun x=>DQ w (rd s x):=TY fun x p=>by rw[h x (sd p)]
 have J:Gq (Ax a&&(BO a).all fun x=>DQ w (rd s' x)) (SP (AQ (VX s') s'.ob key a))=Gq (Ax a&&(BO a).all fun x=>DQ w (rd s x)) (SP (AQ (VX s) s.ob key a)):=by
  rw[j,C,Mu I]
 cases a
 case pick q x y=>
  simp only[Dn];rw[h q (by simp[CM]),h x (by simp[CM]),h y (by simp[CM]),I q (by simp[CM])]
 case call f args=>
  simp only[Dn,C];rw[j,bN (l:=args) fun x p=>I x (by simpa[CM,BO] using p)]
 case callv f args=>
  simp only[Dn,C];rw[j,bN (l:=args) fun x p=>I x (by simp[CM,BO,p]),I f (by simp[CM,BO])]
 all_goals exact J
theorem jt(C:Mh v=bI)(p:Ci D=bI){E:Ji}(j:Kp D E=bI)(w:Bool)(m:Mk):OW (BE s c v D) w E m=BE (OW s w E m) c v D:=by
 simp only[Kp,h9,cA] at j;exact UD p j.1 j.2
theorem sR(J:Mh v=bI)(I:Ci D=bI){E:Ji}(R:Kp D E=bI){key:Nat}{w:Bool}{a:Jc}(U:∀ x,x∈CM a->WH D x=bX):Mp T (BE s c v D) key E w a=BE (Mp T s key E w a) c v D:=by
 have j:∀ x,x∈CM a->rd (BE s c v D) x=rd s x:=fun x p=>Pg I (U x p)
 have C:∀ b:Jc,b=a->OW (BE s c v D) w E (Dn T (BE s c v D) w key b)=BE (OW s w E (Dn T s w key b)) c v D:=fun b hb=>by
  subst hb;rw[ZS Gn j];exact jt J I R _ _
 cases a
 case callw f args=>
  simp only[Mp,nZ];split
  ·have e1:(args.all fun x=>DQ bI (rd (BE s c v D) x))=args.all fun x=>DQ bI (rd s x):=TY fun x p=>by rw[j x (by simpa[CM] using p)]
   rw[e1,bN (l:=args) fun x p=>ve (j x (by simpa[CM] using p))];exact TE J I R _ _
  ·exact jt J I R _ _
 all_goals exact C _ rfl
def Ng(i:Mb):List Src:=(match i.guard with|some g=>[g.1]|none=>[])++CM i.op
theorem sS(I:Mh v=bI)(C:Ci D=bI){i:Mb}(R:Kp D i.dst=bI)(j:∀ x,x∈Ng i->WH D x=bX):Db T (BE s c v D) i=BE (Db T s i) c v D:=by
 unfold Db;unfold Ng at j;cases J:i.guard with
 | none=>rw[J] at j;simp only[WE];exact vq I C R fun x p=>j x (by simpa using p)
 | some g=>
  rw[J] at j;simp only[WE];rw[Pg C (j g.1 (by simp)),vk];exact sR I C R fun x p=>j x (by simp[p])
def XI(s s':St):Prop:=∀ x,Nb (rd s x) (rd s' x)
theorem XI.refl(s:St):XI s s:=fun x=>Nb.refl _
theorem XI.trans{a b d:St}(h:XI a b)(k:XI b d):XI a d:=fun x=>(h x).trans (k x)
theorem Yn{φ:AV->AV}(j:Phi φ)(s:St)(ob:Cp)(ok:Bool):XI s { vs:=s.vs.map φ,st:=s.st.map φ,ob:=ob,ok:=ok }:=by
 have p:φ .any = .any:=j.1 _ rfl;intro x;cases x
 ·simp only[rd];rw[Bv φ p];exact j.nb _
 ·simp only[rd];rw[Bv φ p];exact j.nb _
 ·exact Nb.refl _
theorem FF{s s':St}(j:s'.vs=s.vs)(h2:s'.st=s.st):XI s s':=by
 intro x;cases x<;>simp only[rd,j,h2]<;>exact Nb.refl _
theorem Hj:∀ (ks:List Nat) (s:St),XI s (e9 s ks)
 | [],s=>XI.refl s
 | k::r,s=>by
  simp only[e9];refine XI.trans ?_ (Hj r _);cases AK k s.ob with
  | none=>exact XI.refl _
  | some h=>exact Yn (vw k h) _ _ _
theorem wP(d:Nat)(s:St):XI s (clear s d):=by
 unfold Go.Proofs.YtegmpdmpgmpiaaaGreatDoor.clear;rw[AM];split
 ·exact Yn (pU d) _ _ _
 ·exact XI.refl _
def NbE(E:Ji)(s s':St):Prop:=∀ x,WH E x=bX->Nb (rd s x) (rd s' x)
theorem Ro{E:Ji}(p:Ci E=bI){s s':St}(h:XI s s')(c:Bool)(a:AV):NbE E s (BE s' c a E):=fun x j=>by
 rw[Pg p j];exact h x
theorem OD{E:Ji}(j:Ci E=bI){s s':St}(h:XI s s')(key:Nat)(m:Mk):NbE E s (Dr s' key E m):=by
 unfold Dr;cases m.hs with
 | nil=>exact Ro j h _ _
 | cons p r=>
  simp only[UG];refine Ro j ?_ _ _;refine h.trans ((wP key s').trans ?_);exact FF rfl rfl
theorem kF:∀ (ms:List Md) (j os:List AV) (s:St),XI s (Ag s ms j os):=by
 intro ms
 induction ms with
 | nil=>
  intro j os s;cases j<;>cases os<;>simp only[Ag]<;>exact FF rfl rfl
 | cons m ms p=>
  intro j os s;cases m<;>cases j<;>(try (simp only[Ag];exact FF rfl rfl))<;>cases os<;>(try (simp only[Ag];exact FF rfl rfl))
  ·simp only[Ag];exact p _ _ _
  ·rename_i a j o os;cases a<;>(try (simp only[Ag];exact FF rfl rfl))
   ·cases o<;>(try (simp only[Ag];exact FF rfl rfl))
    simp only[Ag];refine XI.trans ?_ (p _ _ _);exact FF rfl rfl
   ·rename_i k i off;cases off<;>cases o<;>(try (simp only[Ag];exact FF rfl rfl))
    simp only[Ag];refine XI.trans ?_ (p _ _ _);exact FF rfl rfl
  ·rename_i a j o os;cases a<;>(try (simp only[Ag];exact FF rfl rfl))
   ·simp only[Ag];exact p _ _ _
   ·simp only[Ag];exact XI.trans (Yn (Ov _) _ _ _) (p _ _ _)
theorem Vw{E:Ji}(j:Ci E=bI)(s:St)(key:Nat)(q:Cal):NbE E s (Km T s key E q):=by
 unfold Km;cases T q.f with
 | none=>exact fun x _=>FF (s:=s) rfl rfl x
 | some C=>
  simp only[OM,PR];refine OD j ?_ _ _;refine XI.trans ?_ (kF _ _ _ _);unfold Tf;rw[AM];split
  ·exact FF rfl rfl
  ·refine XI.trans ?_ (Hj _ _);exact FF rfl rfl
theorem wN(s:St)(sz:Nat)(x p:AV):XI s (LJ s sz x p):=by
 cases p<;>(try exact FF rfl rfl)
 rename_i k i off;simp only[LJ];cases AK k s.ob<;>exact FF rfl rfl
theorem AFy{E:Ji}(j:Ci E=bI)(s:St)(key sz bytes:Nat)(y:Ap)(a:AV):NbE E s (TX s key E sz bytes y a):=by
 cases a<;>(try (exact fun x _=>FF (s:=s) rfl rfl x))
 ·exact OD j (XI.refl s) _ _
 ·rename_i k;simp only[TX];cases AK k s.ob with
  | none=>exact fun x _=>FF (s:=s) rfl rfl x
  | some h=>exact Ro j (Yn (Ov k) _ _ _) _ _
theorem wM{E:Ji}(j:Ci E=bI)(s:St)(sz:Nat)(n:Int)(a:AV):NbE E s (LI s E sz n a):=by
 cases a<;>(try (exact fun x _=>FF (s:=s) rfl rfl x))
 rename_i k;simp only[LI];cases AK k s.ob with
 | none=>exact fun x _=>FF (s:=s) rfl rfl x
 | some h=>exact Ro j (Yn (Ov k) _ _ _) _ _
theorem AAL{E:Ji}(j:Ci E=bI)(s:St)(key:Nat)(a:Jc):NbE E s (Cu T s key E a):=by
 cases a<;>simp only[Cu]
 case store=>exact fun x _=>((Hj _ s).trans (wN _ _ _ _)) x
 case app=>exact AFy j _ _ _ _ _ _
 case call=>exact Vw j _ _ _
 case callv=>exact Vw j _ _ _
 case callw=>exact fun x _=>FF (s:=s) rfl rfl x
 case box=>exact OD j (Hj _ s) _ _
 case build=>exact OD j (Hj _ s) _ _
 case mkSl=>exact OD j (Hj _ s) _ _
 case slice=>exact OD j (Hj _ s) _ _
 case movz=>exact OD j (Hj _ s) _ _
 case trunc=>exact wM j _ _ _ _
 all_goals exact OD j (XI.refl s) _ _
theorem wO{i:Mb}(p:Ci i.dst=bI)(s:St):NbE i.dst s (Db T s i):=by
 unfold Db;cases i.guard with
 | none=>exact AAL p s _ _
 | some g=>
  simp only[WE];have C:XI s { s with ok:=s.ok&&RF (rd s g.1) }:=FF rfl rfl;have j:∀ m,NbE i.dst s (OW { s with ok:=s.ok&&RF (rd s g.1) } (kv g.2 (rd s g.1)) i.dst m):=fun m=>Ro p C _ _
  cases i.op
  case callw f args=>
   simp only[Mp,nZ];split
   ·exact fun x I=>(C x).trans (Vw p _ _ _ x I)
   ·exact Ro p C _ _
  all_goals exact j _
theorem ABB{s s':St}{key:Nat}{a:Jc}(h:∀ x,x∈FZ a->Nb (rd s x) (rd s' x)):OI ((FZ a).all fun x=>Du (rd s' x)) (Jv T (rd s') key a)=OI ((FZ a).all fun x=>Du (rd s x)) (Jv T (rd s) key a):=by
 by_cases hs:∀ x,x∈FZ a->Du (rd s x)=bI
 ·exact Wz fun x j=>(h x j).1 (hs x j)
 ·have C:((FZ a).all fun x=>Du (rd s x))=bX:=by
   rw[j5];exact fun c=>hs (bR.1 c)
  have p:((FZ a).all fun x=>Du (rd s' x))=bX:=by
   rw[j5];exact fun c=>hs fun x j=>(h x j).2 (bR.1 c x j)
  rw[C,p];rfl
theorem eU{b:Bool}{m:Mk}:Mh (OI b m).v=bI∧(OI b m).hs=[]:=by
 unfold OI;rw[AM];split
 ·rename_i h;simp only[h9] at h;exact⟨jh h.2.2,rfl⟩
 ·exact⟨rfl,rfl⟩
def fp(i:Mb):Bool:=i.guard.isNone&&(match i.op with
 | .flat _=>bI
 | _=>bX)
theorem lD{s:St}{i j:Mb}(p:fp j=bI)(I:Ci i.dst=bI)(R:Ci j.dst=bI)(hd:Qr j.dst i.dst=bX)(U:∀ x,x∈Ng j->WH i.dst x=bX)(h2:∀ x,x∈Ng i->WH j.dst x=bX):
  Db T (Db T s i) j=Db T (Db T s j) i:=by
 obtain⟨D,key,gd,op⟩:=j;simp only[fp,h9,hV] at p;obtain⟨rfl,C⟩:=p;cases op<;>(try (cases C;done))
 rename_i a
 have p:∀ s:St,Db T s ⟨D,key,ga,.flat a⟩=BE s (OI ((FZ a).all fun x=>Du (rd s x)) (Jv T (rd s) key a)).ok (OI ((FZ a).all fun x=>Du (rd s x)) (Jv T (rd s) key a)).v D:=fun s=>by
  simp only[Db,WE,Cu];unfold Dr;rw[eU.2];rfl
 rw[p,p,ABB (s:=s) fun x J=>wO I s x (U x (by simpa[Ng,CM] using J))];refine (sS eU.1 R ?_ h2).symm;simp only[Kp,h9,cA];exact⟨I,hd⟩
end
def WC:Jc->Bool
 | .mov _=>bI
 | .load _ _ _=>bI
 | .nilck _=>bI
 | .bin _ _ _ _=>bI
 | .eqA _ _ _ _=>bI
 | .un _ _=>bI
 | .conv _ _=>bI
 | .b2s _=>bI
 | .mkFn _ _ _=>bI
 | .fldAddr _ _=>bI
 | .fld _ _ _ _=>bI
 | .ixAddr _ _ _=>bI
 | .ixStr _ _=>bI
 | .ext _ _=>bI
 | .len _ _=>bI
 | .minmax _ _=>bI
 | .pick _ _ _=>bI
 | .callp _ _=>bI
 | .pur _=>bI
 | .safe _ _=>bI
 | _=>bX
def fo:Jc->Bool
 | .pick _ _ _=>bI
 | _=>bX
def QA(i:Mb):Bool:=match i.guard with
 | some _=>Ax i.op||fo i.op
 | none=>WC i.op
def Mc:Jc->List Src
 | .mkFn _ fi ca=>fi++ca
 | .pick c a b=>[c,a,b]
 | .callp _ args=>args
 | .pur a=>BO a
 | .safe _ a=>EW a
 | a=>BO a
def dV(i:Mb):List Src:=(match i.guard with|some g=>[g.1]|none=>[])++Mc i.op
def AER(i j:Mb):Bool:=Ci i.dst&&(Ci j.dst&&(!Qr i.dst j.dst&&((Ng j).all (fun x=>!WH i.dst x)&&(Ng i).all (fun x=>!WH j.dst x))))
def Ot(r:Src->AV):Src->AV
 | .c a=>a
 | x=>Jd (r x)
theorem AAG{T:Kc}{r:Src->AV}{ob:Cp}{key:Nat}{a:Jc}:(Qu T r ob key a).hs=[]:=by cases a<;>simp only[Qu,AM]<;>(try split)<;>rfl
def oB(T:Kc)(r:Src->AV)(ob:Cp)(key:Nat):Jc->Bool×AV
 | .pur a=>((Qu T r ob key a).ok,(Qu T r ob key a).v)
 | .pick c a b=>((NV bI (r a) (r b) (r c)).ok,(NV bI (r a) (r b) (r c)).v)
 | .callp f args=>((Ky (DI T ob ⟨bI,f,args.map r⟩)).ok,(Ky (DI T ob ⟨bI,f,args.map r⟩)).v)
 | .safe ds a=>((Lk T r ob key ds a).ok,(Lk T r ob key ds a).v)
 | op=>((AQ r ob key op).ok,(AQ r ob key op).v)
def Ic(T:Kc)(r:Src->AV)(ob:Cp)(w:Bool)(key:Nat):Jc->Mk
 | .pick c a b=>Gq (DQ w (r c)) (NV w (r a) (r b) (Ot r c))
 | .call f args=>Gq ((BO (.call f args)).all fun x=>DQ w (r x)) (DI T ob ⟨bI,f,args.map (Ot r)⟩)
 | .callv f args=>Gq ((BO (.callv f args)).all fun x=>DQ w (r x)) (DI T ob (Kg (args.map (Ot r)) (Ot r f)))
 | op=>Gq (Ax op&&(BO op).all fun x=>DQ w (r x)) (SP (AQ (Ot r) ob key op))
def eff(T:Kc)(r:Src->AV)(ob:Cp)(i:Mb):Bool×AV :=
 match i.guard with
 | none=>oB T r ob i.key i.op
 | some g=>(RF (r g.1)&&(!kv g.2 (r g.1)||((Ic T r ob (kv g.2 (r g.1)) i.key i.op).ok&&((Ic T r ob (kv g.2 (r g.1)) i.key i.op).hs.isEmpty&&(Ic T r ob (kv g.2 (r g.1)) i.key i.op).v.lone))),
   .opt (kv g.2 (r g.1)) (Ic T r ob (kv g.2 (r g.1)) i.key i.op).v)
theorem vf(s:St):Ot (rd s)=VX s:=by funext x;cases x<;>rfl
theorem AAE{T:Kc}{r:Src->AV}{ob:Cp}{key:Nat}{a:Jc}(h:WC a=bI)(I:∀ x y z,a ≠ .pick x y z)(J:∀ f l,a ≠ .callp f l)(C:∀ x,a ≠ .pur x)(j:∀ q x,a ≠ .safe q x):(AQ r ob key a).hs=[]:=by
 cases a<;>simp only[WC] at h<;>(try (cases h;done))<;>simp only[AQ]
 case mov=>rfl
 case load agg sz p=>
  cases r p<;>simp only[OE]<;>try rfl
  ·exact UJ _ _ _ _
  ·rename_i k i off;cases AK k ob<;>first|rfl|exact UJ _ _ _ _
 case nilck x=>cases r x<;>simp only[OX]<;>(try rfl)<;>(rename_i f _ _;cases f<;>rfl)
 case bin bl op x y=>
  unfold Zx;split
  ·rw[AM];split
   ·unfold er;split<;>rfl
   ·simp only[Gq];unfold Nv;split<;>rfl
  ·unfold Ve;split<;>rfl
  ·simp only[Gq];unfold fH;split<;>rfl
  ·rfl
 case eqA neg ks x y=>unfold RN;split<;>rfl
 case un op x=>unfold zW;split<;>(try rfl)<;>(split<;>rfl)
 case conv k x=>unfold Zh;split<;>rfl
 case b2s x=>cases r x<;>simp only[XU]<;>(try rfl);rename_i k;cases AK k ob<;>rfl
 case mkFn=>rfl
 case fldAddr off p=>unfold MV;split<;>rfl
 case fld agg off sz x=>simp only[Gq];exact UJ _ _ _ _
 case ixAddr sz x i=>cases r x<;>simp only[LT]<;>(try rfl);rename_i k;cases AK k ob<;>rfl
 case ixStr x i=>unfold Qx;split<;>rfl
 case ext x i=>unfold lK;split<;>rfl
 case len st x=>cases r x<;>simp only[XP]<;>(try rfl);rename_i k;cases AK k ob<;>rfl
 case minmax mx xs=>unfold wb;split<;>rfl
 case pick c a b=>exact absurd rfl (I _ _ _)
 case callp f l=>exact absurd rfl (J _ _)
 case pur x=>exact absurd rfl (C _)
 case safe q x=>exact absurd rfl (j _ _)
theorem ji{T:Kc}{r:Src->AV}{ob:Cp}{key:Nat}{ds:List Nat}{a:Jc}:(Lk T r ob key ds a).hs=[]:=by
 unfold Lk YS;rw[AM];split<;>rfl
theorem vv{w:Bool}{a b c:AV}:(NV w a b c).hs=[]:=by unfold NV;split<;>rfl
theorem Ou{s:St}{key:Nat}{D:Ji}{m:Mk}(h:m.hs=[]):Dr s key D m=BE s m.ok m.v D:=by unfold Dr;rw[h];rfl
theorem ta{T:Kc}{s:St}{w:Bool}{key:Nat}{a:Jc}:Dn T s w key a=Ic T (rd s) s.ob w key a:=by
 cases a<;>simp only[Dn,Ic,vf]
theorem Rx{T:Kc}{s:St}{i:Mb}(h:QA i=bI):Db T s i=BE s (eff T (rd s) s.ob i).1 (eff T (rd s) s.ob i).2 i.dst:=by
 unfold Db eff;cases p:i.guard with
 | some g=>
  have j:∀ f l,i.op ≠ .callw f l:=fun f l e=>by simp[QA,p,e,Ax,fo] at h
  have I:∀ s' w,Mp T s' i.key i.dst w i.op=OW s' w i.dst (Dn T s' w i.key i.op):=by
   intro s' w;unfold Mp;split
   ·rename_i f l e;exact absurd e (j f l)
   ·rfl
  simp only[WE];rw[I];have C:Dn T { s with ok:=s.ok&&RF (rd s g.1) } (kv g.2 (rd s g.1)) i.key i.op=Dn T s (kv g.2 (rd s g.1)) i.key i.op:=rfl;rw[C,ta];simp only[OW];cases i.dst<;>simp[BE,Bool.and_assoc]
 | none=>
  simp only[QA,p] at h;simp only[WE];generalize i.op=a at h;cases a<;>simp only[WC] at h<;>(try (cases h;done))<;>simp only[Cu,oB]
  case pick=>rw[Ou vv]
  case callp=>rw[Ou rfl]
  case pur=>rw[pT,Ou AAG]
  case safe=>rw[Ou ji]
  all_goals
   rw[Ou (AAE (T:=T) rfl (fun _ _ _ e=>by cases e) (fun _ _ e=>by cases e) (fun _ e=>by cases e) (fun _ _ e=>by cases e))]
theorem pV{s:St}{c:Bool}{a:AV}{D:Ji}:(BE s c a D).ob=s.ob:=by cases D<;>rfl
theorem dW{s:St}{c d:Bool}{a b:AV}{D E:Ji}(p:Ci D=bI)(h2:Ci E=bI)(j:Qr D E=bX):BE (BE s c a D) d b E=BE (BE s d b E) c a D:=by
 have C:(s.ok&&c&&d)=(s.ok&&d&&c):=hP _ _ _
 cases D<;>simp only[Ci] at p<;>(try (cases p;done))<;>cases E<;>simp only[Ci] at h2<;>(try (cases h2;done))<;>simp only[BE,C] <;>
  (try (simp only[Qr,beq_eq_false_iff_ne] at j;rw[l6 _ _ j]))
theorem YJ{r r':Src->AV}{ob:Cp}{d:Nat}{a:Jc}(C:WC a=bI)(J:∀ x y z,a ≠ .pick x y z)(R:∀ f l,a ≠ .callp f l)(I:∀ x,a ≠ .pur x)(p:∀ q x,a ≠ .safe q x)(h:∀ x,x∈Mc a->r x=r' x):AQ r ob d a=AQ r' ob d a:=by
 cases a<;>simp only[WC] at C<;>(try (cases C;done))<;>simp only[Mc,BO] at h<;>simp only[AQ]
 case minmax mx xs=>rw[bN h]
 case mkFn f fi ca=>
  rw[bN (l:=fi) fun x j=>h x (bS.2 (.inl j)),bN (l:=ca) fun x j=>h x (bS.2 (.inr j))]
 all_goals first|(exact absurd rfl (J _ _ _))|(exact absurd rfl (R _ _))|(exact absurd rfl (I _))|(exact absurd rfl (p _ _))|simp_all
theorem OB{r r':Src->AV}{x:Src}(h:r x=r' x):Ot r x=Ot r' x:=by cases x<;>simp[Ot,h]
theorem ZT{T:Kc}{r r':Src->AV}{ob:Cp}{w:Bool}{key:Nat}{a:Jc}(J:Ax a=bI∨fo a=bI)(h:∀ x,x∈Mc a->r x=r' x):Ic T r ob w key a=Ic T r' ob w key a:=by
 have j:∀ l:List Src,(∀ x,x∈l->r x=r' x)->(l.all fun x=>DQ w (r x))=(l.all fun x=>DQ w (r' x)):=by
  intro l I
  induction l with
  | nil=>rfl
  | cons y l ih=>simp only[ic];rw[I y (by simp),ih fun x C=>I x (by simp[C])]
 have p:∀ l:List Src,(∀ x,x∈l->r x=r' x)->l.map (Ot r)=l.map (Ot r'):=fun l I=>bN fun x C=>OB (I x C)
 have still:Ax a=bI->(∀ x,x∈BO a->r x=r' x)->Gq (Ax a&&(BO a).all fun x=>DQ w (r x)) (SP (AQ (Ot r) ob key a))=Gq (Ax a&&(BO a).all fun x=>DQ w (r' x)) (SP (AQ (Ot r') ob key a)):=by
  intro R U;rw[j _ U,Hy R fun x C=>OB (U x C)]
 cases a
 case pick c x y=>
  simp only[Mc] at h;simp only[Ic];rw[h c (by simp),h x (by simp),h y (by simp),OB (h c (by simp))]
 case call f args=>
  simp only[Mc,BO] at h;simp only[Ic,BO];rw[j _ h,p _ h]
 case callv f args=>
  simp only[Mc,BO] at h;simp only[Ic,BO];rw[j _ h,p _ fun x C=>h x (iR _ C),OB (h f (by simp))]
 all_goals
  first
  | (exfalso;rcases J with J|J<;>simp[Ax,fo] at J;done)
  | exact still rfl h
theorem ed{T:Kc}{r r':Src->AV}{ob:Cp}{i:Mb}(j:QA i=bI)(h:∀ x,x∈dV i->r x=r' x):eff T r ob i=eff T r' ob i:=by
 unfold dV at h;unfold QA at j;unfold eff;cases p:i.guard with
 | some g=>
  rw[p] at j h;simp only at j h ⊢;have I:r g.1=r' g.1:=h _ (by simp);have h2:∀ w,Ic T r ob w i.key i.op=Ic T r' ob w i.key i.op:=fun w=>ZT (by simpa using j) fun x C=>h x (bS.2 (.inr C))
  rw[I,h2]
 | none=>
  rw[p] at j h;simp only[List.nil_append] at j h ⊢;generalize i.op=a at j h;cases a
  case pick c x y=>
   simp only[Mc] at h;simp only[oB];rw[h c (by simp),h x (by simp),h y (by simp)]
  case callp f args=>
   simp only[Mc] at h;simp only[oB];rw[bN h]
  case pur x=>
   simp only[Mc] at h;simp only[oB];rw[Yg h]
  case safe q x=>
   simp only[Mc] at h;simp only[oB];rw[Wo h]
  all_goals
   simp only[oB];rw[YJ j (fun _ _ _ e=>by cases e) (fun _ _ e=>by cases e) (fun _ e=>by cases e) (fun _ _ e=>by cases e) h]
def UY(d:Nat)(i:Mb):Bool:=i.guard.isNone&&(match i.op with
 | .safe ds _=>ds.any (· == d)
 | _=>bX)
def Xp(i:Mb):Bool:=i.guard.isNone&&(match i.op with
 | .alloc _=>bI
 | _=>bX)
theorem TT(d:Nat):∀ ob:Cp,Ej d (Ej d ob)=Ej d ob
 | []=>rfl
 | p::r=>by
  have j:=TT d r
  by_cases c:p.1/32=d
  ·simp only[Ej,c,beq_self_eq_true,cond_true,j]
  ·have:(p.1/32==d)=bX:=by simpa using c
   simp only[Ej,this,cond_false,j]
theorem Zl(d e:Nat):∀ ob:Cp,Ej d (Ej e ob)=Ej e (Ej d ob)
 | []=>rfl
 | p::r=>by
  have j:=Zl d e r
  by_cases c:p.1/32=d<;>by_cases c2:p.1/32=e
  ·simp only[Ej,c,c2,beq_self_eq_true,cond_true,j];try (subst c2;subst c;simp only[beq_self_eq_true,cond_true,j])
   try (rw[← c] at c2;simp_all)
  ·have h2:(p.1/32==e)=bX:=by simpa using c2
   have C:(p.1/32==d)=bI:=by simpa using c
   simp only[Ej,C,h2,cond_true,cond_false,j]
  ·have C:(p.1/32==d)=bX:=by simpa using c
   have h2:(p.1/32==e)=bI:=by simpa using c2
   simp only[Ej,C,h2,cond_true,cond_false,j]
  ·have C:(p.1/32==d)=bX:=by simpa using c
   have h2:(p.1/32==e)=bX:=by simpa using c2
   simp only[Ej,C,h2,cond_false,j]
theorem ei{d k:Nat}{h:Hm}(j:k/32=d):∀ ob:Cp,Ej d (DA k h ob)=Ej d ob
 | []=>by simp[DA,Ej,j]
 | p::r=>by
  have C:=ei (h:=h) j r;simp only[DA,AM,beq_iff_eq,l9];split
  ·rename_i e;simp[Ej,e,j]
  ·split
   ·simp[Ej,j]
   ·simp only[Ej,C]
theorem WQ{d:Nat}:∀ {ds:List Nat} (ob:Cp),ds.any (· == d)=bI->Lw ds (Ej d ob)=Lw ds ob
 | [],_,h=>by simp at h
 | e::r,ob,h=>by
  simp only[Lw]
  by_cases c:e=d
  ·subst c;rw[TT]
  ·have:r.any (· == d)=bI:=by
    simp only[List.any_cons,e5,beq_iff_eq] at h;exact h.resolve_left c
   rw[Zl,WQ _ this]
theorem Zk{d:Nat}:∀ {ob:Cp},RB d ob=bX->Ej d ob=ob
 | [],_=>rfl
 | p::r,h=>by
  simp only[RB,Bool.or_eq_false_iff] at h;simp only[Ej,h.1,cond_false,Zk h.2]
theorem xn(s:St)(d:Nat):(clear s d).ob=Ej d s.ob:=by
 unfold Go.Proofs.YtegmpdmpgmpiaaaGreatDoor.clear;rw[AM];split
 ·rfl
 ·rename_i h;rw[Zk (by simpa using h)]
theorem gU(d:Nat):Zm d .any = .any:=by simp[Zm,AV.keys]
theorem wH(ds:List Nat):Pj ds .any=bX:=by simp[Pj,Ll]
theorem gT{d:Nat}{ds:List Nat}(hd:ds.any (· == d)=bI)(a:AV):(Pj ds a=bI->Zm d a=a)∧Pj ds (Zm d a)=Pj ds a:=by
 unfold Zm;rw[AM]
 by_cases c:a.keys.any (fun k=>k/32==d)=bI
 ·have J:Pj ds a=bX:=by
   rw[j5];intro C;rw[gj] at c hd;obtain⟨k,I,e⟩:=c;obtain⟨d',j,p⟩:=hd;simp only[beq_iff_eq] at e p;exact kD C I d' j (by rw[e,p])
  rw[if_pos c,wH,J];exact⟨fun h=>Bool.noConfusion h,rfl⟩
 ·rw[if_neg c];exact⟨fun _=>rfl,rfl⟩
theorem vg(s:St)(d:Nat)(x:Src):rd (clear s d) x=rd s x∨rd (clear s d) x=Zm d (rd s x):=by
 unfold Go.Proofs.YtegmpdmpgmpiaaaGreatDoor.clear;rw[AM];split
 ·cases x
  ·exact .inr (Bv _ (gU d) _ _)
  ·exact .inr (Bv _ (gU d) _ _)
  ·exact .inl rfl
 ·exact .inl rfl
theorem nC{s:St}{c:Bool}{v:AV}{D:Ji}{d:Nat}(j:Zm d v=v)(p:Ci D=bI):clear (BE s c v D) d=BE (clear s d) c v D:=by
 unfold Go.Proofs.YtegmpdmpgmpiaaaGreatDoor.clear;rw[Gn,AM,AM];split
 ·cases D<;>simp only[BE,l7,j]
  cases p
 ·rfl
theorem YR{T:Kc}{s:St}{i j:Mb}(hi:UY j.key i=bI)(hj:Xp j=bI)(h1:Ci i.dst=bI)(h2:Ci j.dst=bI)(h3:Qr i.dst j.dst=bX)(h5:∀ x,x∈Ng i->WH j.dst x=bX):
  Db T (Db T s i) j=Db T (Db T s j) i:=by
 obtain⟨D,key,gd,op⟩:=i;obtain⟨E,d,a3,aa⟩:=j;simp only[UY,h9,hV] at hi;simp only[Xp,h9,hV] at hj;obtain⟨rfl,p⟩:=hi;obtain⟨rfl,J⟩:=hj;cases op<;>(try (cases p;done))
 cases aa<;>(try (cases J;done))
 rename_i ds a z;simp only at p h1 h2 h3
 have hI:∀ s:St,Db T s ⟨D,key,ga,.safe ds a⟩=BE s (Lk T (rd s) s.ob key ds a).ok (Lk T (rd s) s.ob key ds a).v D:=fun s=>by
  simp only[Db,WE,Cu];rw[Ou ji]
 have U:∀ s:St,Db T s ⟨E,d,ga,.alloc z⟩=BE { clear s d with ob:=DA (Bh d) ⟨z.cells.length,[z]⟩ (clear s d).ob } (decide (1<=z.cells.length)&&z.atoms) (.ref (Bh d) 0 0) E:=fun s=>rfl
 have ad:Bh d/32=d:=by simp[Bh]
 have hM:Lk T (rd (Db T s ⟨E,d,ga,.alloc z⟩)) (Db T s ⟨E,d,ga,.alloc z⟩).ob key ds a=Lk T (rd s) s.ob key ds a:=by
  have ac:Lw ds (Db T s ⟨E,d,ga,.alloc z⟩).ob=Lw ds s.ob:=by
   rw[U,Gn];show Lw ds (DA (Bh d) _ (clear s d).ob)=_;rw[← WQ _ p,ei ad,xn,TT,WQ _ p]
  have I:∀ x,x∈EW a->rd (Db T s ⟨E,d,ga,.alloc z⟩) x=rd s x∨rd (Db T s ⟨E,d,ga,.alloc z⟩) x=Zm d (rd s x):=fun x C=>by
   rw[U,Pg h2 (h5 x (by simpa[Ng,CM] using C))];have e:rd ({ clear s d with ob:=DA (Bh d) ⟨z.cells.length,[z]⟩ (clear s d).ob }:St) x=rd (clear s d) x:=by cases x<;>rfl
   rw[e];exact vg s d x
  unfold Lk
  have R:((EW a).all fun x=>Pj ds (rd (Db T s ⟨E,d,ga,.alloc z⟩) x))=(EW a).all fun x=>Pj ds (rd s x):=by
   have:∀ l:List Src,(∀ x,x∈l->x∈EW a)->(l.all fun x=>Pj ds (rd (Db T s ⟨E,d,ga,.alloc z⟩) x))=l.all fun x=>Pj ds (rd s x):=by
    intro l hl
    induction l with
    | nil=>rfl
    | cons y l ih=>
     simp only[ic];rw[ih fun x C=>hl x (by simp[C])]
     congr 1
     rcases I y (hl y (by simp)) with e|e
     ·rw[e]
     ·rw[e,(gT p _).2]
   exact this _ fun x C=>C
  rw[R,ac]
  by_cases hs:((EW a).all fun x=>Pj ds (rd s x))=bI
  ·rw[Wp (r:=rd (Db T s ⟨E,d,ga,.alloc z⟩)) (r':=rd s) fun x C=>by
    rcases I x C with e|e
    ·exact e
    ·rw[e];exact (gT p _).1 (bR.1 hs x C)]
  ·have ab:((EW a).all fun x=>Pj ds (rd s x))=bX:=by simpa using hs
   rw[ab];rfl
 have hv:Zm d (Lk T (rd s) s.ob key ds a).v=(Lk T (rd s) s.ob key ds a).v:=by
  unfold Lk YS;rw[AM];split
  ·rename_i hc;simp only[h9] at hc;exact (gT p _).1 hc.2.2
  ·exact gU d
 rw[hI (Db T s ⟨E,d,ga,.alloc z⟩),hM,hI s,U,U,nC hv h1];have e:∀ (b:Bool) (v:AV) (ob:Cp),({ BE (clear s d) b v D with ob:=ob }:St)=BE { clear s d with ob:=ob } b v D:=fun b v ob=>Vp ob
 rw[Gn,e];exact (dW h2 h1 (by rw[TA];exact h3)).symm
def com(i j:Mb):Bool:=AER i j&&(((QA i&&QA j)||(fp i||fp j))||((UY j.key i&&Xp j)||(UY i.key j&&Xp i)))
theorem AGr{T:Kc}{s:St}{i j:Mb}(h:com i j=bI):Db T (Db T s i) j=Db T (Db T s j) i:=by
 simp only[com,AER,h9,e5,cA,bR] at h;obtain⟨⟨R,h2,h3,I,C⟩,hh⟩:=h
 have J:∀ (k:Mb) x,x∈dV k->x∈Ng k:=fun k x p=>by
  unfold dV at p;unfold Ng;rcases bS.1 p with p|p
  ·exact List.mem_append_left _ p
  ·refine List.mem_append_right _ ?_;generalize k.op=a at p;cases a<;>first|exact p|(simp[Mc,BO] at p)
 rcases hh with (⟨h6,h7⟩|hi|U)|⟨hi,U⟩|⟨U,hi⟩
 rotate_left
 ·exact (lD hi h2 R h3 C I).symm
 ·refine lD U R h2 ?_ I C;rw[TA];exact h3
 ·exact YR hi U R h2 h3 C
 ·exact (YR U hi h2 R (by rw[TA];exact h3) I).symm
 have h4:∀ x,x∈dV j->WH i.dst x=false:=fun x p=>I x (J j x p)
 have h5:∀ x,x∈dV i->WH j.dst x=false:=fun x p=>C x (J i x p)
 rw[Rx h6,Rx (s:=s) h7,Rx h7,Rx h6];rw[pV,pV,ed (r:=rd (BE s _ _ i.dst)) (r':=rd s) h7 fun x p=>Pg R (h4 x p),ed (r:=rd (BE s _ _ j.dst)) (r':=rd s) h6 fun x p=>Pg h2 (h5 x p)];exact dW R h2 h3
open Go Go.RowKit
def uh(dep:Nat->Nat->Bool)(l:List Nat):Prop:=l.Pairwise fun a b=>dep b a=bX
def ql(dep:Nat->Nat->Bool)(j:Nat):List Nat->List Nat->List Nat
 | acc,[]=>acc
 | acc,i::r=>ql dep j (bif dep j i||acc.any (fun k=>dep k i) then i::acc else acc) r
def nV(dep cm:Nat->Nat->Bool)(rem:List Nat)(j:Nat):Bool :=
 rem.all fun i=>i==j||((ql dep j [] rem).contains i||cm j i)
def ready(dep:Nat->Nat->Bool)(rem:List Nat):List Nat:=rem.filter fun j=>rem.all fun i=>!dep i j
def Pz(dep cm:Nat->Nat->Bool):Nat->List Nat->List (List Nat)
 | 0,_=>[[]]
 | n+1,rem=>
  match rem with
  | []=>[[]]
  | _=>match (ready dep rem).find? (nV dep cm rem) with
   | some j=>(Pz dep cm n (rem.erase j)).map (j::·)
   | none=>(ready dep rem).flatMap fun j=>(Pz dep cm n (rem.erase j)).map (j::·)
section
variable {dep cm:Nat->Nat->Bool}
theorem ee{j:Nat}{p q:List Nat}(U:uh dep (p++j::q)):∀ (r acc:List Nat),(∀ i,i∈acc->i ∉ p∧i∈p++j::q)->(∀ i,i∈r->i∈p++j::q)->∀ i,i∈ql dep j acc r->i ∉ p
 | [],acc,R,_,i,hi=>(R i hi).1
 | a::r,acc,R,hr,i,hi=>by
  simp only[ql] at hi;refine ee U r _ (fun k I=>?_) (fun k I=>hr k (by simp[I])) i hi;cases J:dep j a||acc.any (fun k=>dep k a) with
  | false=>rw[J] at I;exact R k I
  | true=>
   rw[J] at I;simp only[cond_true,ec] at I;rcases I with rfl|I
   ·refine⟨fun hp=>?_,hr k (by simp)⟩;unfold uh at U;rw[List.pairwise_append] at U;have C:=U.2.2 k hp;simp only[e5,gj] at J;rcases J with J|⟨m,hm,J⟩
    ·have:=C j (by simp);rw[J] at this;cases this
    ·obtain⟨ab,ac⟩:=R m hm
     have aa:m∈j::q:=by
      rcases bS.1 ac with h|h
      ·exact absurd h ab
      ·exact h
     have:=C m aa;rw[J] at this;cases this
   ·exact R k I
theorem lL{σ:Type}{f:Nat->σ->σ}(a8:∀ i j s,cm i j=bI->f j (f i s)=f i (f j s))(ax:∀ i,dep i i=bX):
  ∀ (n:Nat) (rem:List Nat),rem.length<=n->rem.Nodup->∀ π,π.Perm rem->uh dep π->∃ ρ∈Pz dep cm n rem,∀ s,π.foldl (fun s i=>f i s) s=ρ.foldl (fun s i=>f i s) s:=by
 intro n
 induction n with
 | zero=>
  intro rem hn _ π I _;have:rem=[]:=k6.1 (by omega);subst this;have:=I.eq_nil;subst this;exact⟨[],by simp[Pz],fun s=>rfl⟩
 | succ n ih=>
  intro rem hn aj π I hl;cases rem with
  | nil=>
   have:=I.eq_nil;subst this;exact⟨[],by simp[Pz],fun s=>rfl⟩
  | cons r0 rr=>
   have ad:π.Nodup:=I.nodup_iff.2 aj;simp only[Pz];cases U:(ready dep (r0::rr)).find? (nV dep cm (r0::rr)) with
   | some j=>
    have hj:j∈r0::rr:=by
     have:=List.mem_of_find?_eq_some U;exact (iI.1 this).1
    have R:=List.find?_some U;obtain⟨p,q,rfl⟩:=List.append_of_mem (I.mem_iff.2 hj)
    have a5:j ∉ p:=by
     intro c;rw[List.nodup_append] at ad;exact ad.2.2 j c j (by simp) rfl
    have ay:∀ i,i∈p->cm j i=bI:=by
     intro i hi;simp only[nV,bR] at R;have a6:i∈r0::rr:=I.mem_iff.1 (by simp[hi]);have:=R i a6;simp only[e5,beq_iff_eq,kn,l9] at this;rcases this with e|e|e
     ·exact absurd hi (e▸a5)
     ·exact absurd hi (ee hl (r0::rr) [] (fun k hk=>by simp at hk) (fun k hk=>I.mem_iff.2 hk) i e)
     ·exact e
    have ao:∀ (p:List Nat),(∀ i,i∈p->cm j i=bI)->∀ s,f j (p.foldl (fun s i=>f i s) s)=p.foldl (fun s i=>f i s) (f j s):=by
     intro p
     induction p with
     | nil=>intro _ s;rfl
     | cons a p a1=>
      intro hc s;simp only[hL];rw[a1 (fun i hi=>hc i (by simp[hi])),a8 j a s (hc a (by simp))]
    have C:(p++q).Perm ((r0::rr).erase j):=by
     have h1:(p++j::q).Perm (j::(p++q)):=List.perm_middle;have h2:=(h1.symm.trans I).erase j;simpa using h2
    have J:uh dep (p++q):=by
     unfold uh at hl ⊢;exact hl.sublist (List.Sublist.append (List.Sublist.refl p) (List.sublist_cons_self j q))
    obtain⟨ρ,hρ,he⟩:=ih _ (by rw[hZ hj];simp at hn ⊢;omega) (aj.erase j) (p++q) C J;refine⟨j::ρ,gf.2 ⟨ρ,hρ,rfl⟩,fun s=>?_⟩;rw[kI,hL,ao p ay,hL,← he,kI]
   | none=>
    cases π with
    | nil=>have:=I.symm.eq_nil;cases this
    | cons j π'=>
     have hj:j∈r0::rr:=I.mem_iff.1 (by simp)
     have ac:j∈ready dep (r0::rr):=by
      refine iI.2 ⟨hj,bR.2 fun i hi=>?_⟩;have au:i∈j::π':=I.mem_iff.2 hi;rcases ec.1 au with e|au
      ·rw[e,ax];rfl
      ·unfold uh at hl;rw[hW] at hl;rw[hl.1 i au];rfl
     have C:π'.Perm ((r0::rr).erase j):=by
      have h2:=I.erase j;simpa using h2
     have J:uh dep π':=by unfold uh at hl ⊢;exact (hW.1 hl).2
     obtain⟨ρ,hρ,he⟩:=ih _ (by rw[hZ hj];simp at hn ⊢;omega) (aj.erase j) π' C J;refine⟨j::ρ,j6.2 ⟨j,ac,gf.2 ⟨ρ,hρ,rfl⟩⟩,fun s=>?_⟩;rw[hL,hL,he]
end
open Go Go.RowKit
def gS:Mb:=⟨.no,0,ga,.mov (.c .any)⟩
def OK(ops:Array iS)(i j:Nat):Bool :=
 match ops[j]? with
 | some o=>o.after.any fun e=>Region.binds .any e&&e.on==i
 | none=>bX
def cmOf(is:List Mb)(i j:Nat):Bool:=com (is.getD i gS) (is.getD j gS)
def AFc(vm:List Nat)(ops:Array iS):List Nat:=((ops.toList.filterMap (·.dst)).filter fun d=>!vm.contains d).eraseDups
def eq(P:e8)(n:Nat)(ops:Array iS)(vm ss:List Nat)(is:List Mb)(j:Nat):Bool :=
 match ops[j]? with
 | some o=>o.after.all (fun e=>!Region.binds .any e||decide (e.on<j))&&gV P n ops vm ss o (is.getD j gS)==cI ss
 | none=>bX
def gW(P:e8)(n:Nat)(ops:Array iS)(vm ss:List Nat)(k:Nat)(is:List Mb)(j:List (List Nat)):Bool :=
 P.follows .mixedOrders&&(ss.length==k&&(ss.all (fun t=>decide (t<n))&&(is.length==ops.size&&((fI ops.size).all (eq P n ops vm ss is) &&
  (Pz (OK ops) (cmOf is) ops.size (fI ops.size)).all fun ρ=>ρ==fI ops.size||j.contains ρ))))
def runL(T:Kc)(is:List Mb)(s:St)(l:List Nat):St:=l.foldl (fun s i=>Db T s (is.getD i gS)) s
theorem Vn{T:Kc}{is:List Mb}:∀ (l:List Nat) (s:St),GB T (Vs is l) s=runL T is s l
 | [],s=>rfl
 | i::l,s=>Vn l (Db T s (is.getD i gS))
theorem fY(is:List Mb):Vs is (fI is.length)=is:=by
 unfold Vs;apply List.ext_getElem
 ·simp
 ·intro i j h2;simp[k7,geE h2]
theorem pR{T:Kc}{is:List Mb}:∀ (l:List Nat) {s:St},(runL T is s l).ok=bI->s.ok=bI
 | [],_,h=>h
 | i::l,s,h=>lV (pR l (s:=Db T s (is.getD i gS)) h)
theorem aD{T:Kc}{is:List Mb}{s r:St}:∀ {alts:List (List Nat)},RW T is s r alts=bI->∀ l,l∈alts->GB T (Vs is l) s=r
 | [],_,l,h=>by simp at h
 | a::alts,h,l,j=>by
  simp only[RW,h9,l9] at h;rcases ec.1 j with e|j
  ·subst e;exact h.1
  ·exact aD h.2 l j
section
variable {F Iow:Nat->Prop}{w0:cS}{g0:Gh}{o0:Cp}{g:Gh}{w w':cS}{tmps:Array Value}{ds:List hE}{vm ss ss':List Nat}{s:St}{P:e8}{T:Kc}
 {Q:lf->Act->cS->Prop} {ops:Array iS} {n:Nat}
theorem FX.grow(h:FX F Iow w0 g0 o0 g w tmps vm ss s)(j:AG (fun _=>False) w w'):FX F Iow w0 g0 o0 g w' tmps vm ss s :=
 FX.mk' (w:=w) (h.toFR.grow j) h.same (j.mono fun _ _ c=>c.elim) h.hio h.fio h.par
theorem FX.slots(h:FX F Iow w0 g0 o0 g w tmps vm [] s){k:Nat}(p:ss.length=k)(C:∀ t,t∈ss->t<tmps.size):FX F Iow w0 g0 o0 g w tmps vm ss (iZ k s):=by
 refine⟨⟨h.home,h.inj,h.nF,h.fb,h.vl,by simp[Go.Proofs.YtegmpdmpgmpiaaaGreatDoor.slots,p],h.vs,fun i hi=>?_,fun t j=>?_,h.tab⟩,h.same,h.hio,h.fio,h.par⟩
 ·simp only[Go.Proofs.YtegmpdmpgmpiaaaGreatDoor.slots];have:(List.replicate k AV.any).getD i .any = .any:=by rw[k7,List.getElem?_replicate];split<;>rfl
  rw[this];exact SR.any
 ·rcases j with j|j
  ·exact h.fit t (.inl j)
  ·exact C t j
theorem zB(hT:Kq P T)(b1:QM vm){is:List Mb}(ae:∀ j,j<ops.size->eq P n ops vm ss is j=bI){r:St}(a7:r.ok=bI)
  (hQ:∀ C w' g',C.size=n->FX F Iow w0 g0 o0 g' w' C vm ss r->Q .normal ⟨C,ds⟩ w') :
  ∀ (p:Nat) (rem:List Nat) (listed:Array Bool) {s:St} {g:Gh} {w:cS} {tmps:Array Value},rem.Pairwise (· < ·)->(∀ i,i∈rem->i<ops.size)->listed.size=ops.size->(∀ i,i<ops.size->(listed.getD i bI=bI ↔ i ∉ rem))->rem.length<=p ->
   (∀ π,π.Perm rem->uh (OK ops) π->runL T is s π=r)->FX F Iow w0 g0 o0 g w tmps vm ss s->tmps.size=n->wpAny P .any ops Q p listed ⟨tmps,ds⟩ w:=by
 have bb:∀ i j,OK ops i j=bI->i<j:=by
  intro i j hd;unfold OK at hd;split at hd
  ·rename_i o ho
   have hj:j<ops.size:=by
    rcases hA j ops.size with h' | h'
    ·exact h'
    ·rw[k8 h'] at ho;cases ho
   have hc:=ae j hj;unfold eq at hc;rw[ho] at hc;simp only[h9,hy,j3] at hc hd;obtain⟨x,hx,hb,he⟩:=hd;have:=hc.1 x hx;simp only[e5,cA,l9,beq_iff_eq] at this he;rcases this with e|e
   ·rw[hb] at e;cases e
   ·omega
  ·cases hd
 have a2:∀ (l:List Nat),l.Pairwise (· < ·)->uh (OK ops) l:=fun l R=>R.imp fun {a b} cs=>by
  cases hd:OK ops b a with
  | false=>rfl
  | true=>have:=bb b a hd;omega
 have aa:∀ (rem:List Nat) (listed:Array Bool),(∀ i,i∈rem->i<ops.size)->listed.size=ops.size->(∀ i,i<ops.size->(listed.getD i bI=bI ↔ i ∉ rem))->∀ i,i∈k1 .any ops listed->i∈rem∧∀ k,k∈rem->OK ops k i=bX:=by
  intro rem listed hb J R i hi;obtain⟨h1,h2⟩:=iI.1 hi;have U:i<ops.size:=by simpa using h1
  simp only[h9,cA,cL U,kA,kp,hy] at h2;obtain⟨h3,h4⟩:=h2;refine⟨?_,fun k hk=>?_⟩
  ·by_cases hm:i∈rem
   ·exact hm
   ·have:=(R i U).2 hm;rw[h3] at this;cases this
  ·cases hd:OK ops k i with
   | false=>rfl
   | true=>
    unfold OK at hd;rw[cL U] at hd;simp only[j3,h9,beq_iff_eq] at hd;obtain⟨x,hx,b7,he⟩:=hd;have h5:=h4 x hx;rw[b7,he] at h5;simp only[k3,k4] at h5;have b4:=hb k hk
    have h6:listed.getD k bI=bI:=by
     rw[← h5,agD,agD,cL (by omega)];rfl
    exact absurd hk ((R k b4).1 h6)
 have a0:∀ (rem:List Nat) (listed:Array Bool),rem.Pairwise (· < ·)->(∀ i,i∈rem->i<ops.size)->listed.size=ops.size->(∀ i,i<ops.size->(listed.getD i bI=bI ↔ i ∉ rem))->k1 .any ops listed=[]->rem=[]:=by
  intro rem listed hs hb J R h0;cases rem with
  | nil=>rfl
  | cons a r=>
   exfalso;have aj:=hb a (by simp);have hc:=ae a aj;unfold eq at hc;rw[cL aj] at hc;simp only[h9,hy] at hc
   have ax:a∈k1 .any ops listed:=by
    refine iI.2 ⟨by simpa using aj,?_⟩;simp only[h9,cA,cL aj,kA,kp,hy];refine⟨?_,fun x hx=>?_⟩
    ·cases b3:listed.getD a bI with
     | false=>rfl
     | true=>exact absurd (List.mem_cons_self) ((R a aj).1 b3)
    ·have h5:=hc.1 x hx;simp only[e5,cA,l9] at h5 ⊢;refine h5.imp id fun cf=>?_
     have hk:(ops[a].after[x]).on<ops.size:=by omega
     have b0:(ops[a].after[x]).on ∉ a::r:=by
      intro hm;rcases ec.1 hm with e|hm
      ·omega
      ·have:=(hW.1 hs).1 _ hm;omega
     have h6:=(R _ hk).2 b0;rw[← h6,agD,agD,cL (by omega)];rfl
   rw[h0] at ax;simp at ax
 intro p
 induction p with
 | zero=>
  intro rem listed s g w tmps hs hb J R hf H av hn;have a1:rem=[]:=k6.1 (by omega);subst a1;have e:=H [] (ik _) List.Pairwise.nil;have e':s=r:=e;subst e';refine⟨?_,hQ _ _ _ hn av⟩;rw[j7];intro i hi;exact absurd (aa [] listed hb J R i hi).1 (by simp)
 | succ p ih=>
  intro rem listed s g w tmps hs hb J R hf H av hn;refine⟨fun h0=>?_,fun i hi=>?_⟩
  ·have a1:=a0 rem listed hs hb J R h0;subst a1;have e:=H [] (ik _) List.Pairwise.nil;have e':s=r:=e;subst e';exact hQ _ _ _ hn av
  ·obtain⟨a3,b6⟩:=aa rem listed hb J R i hi;have U:=hb i a3;have hc:=ae i U;unfold eq at hc;rw[cL U] at hc;simp only[h9,beq_iff_eq] at hc;have au:rem.Nodup:=hs.imp fun {a b} h=>Nat.ne_of_lt h
   have a9:(rem.erase i).Pairwise (· < ·):=hs.sublist List.erase_sublist;have ay:∀ π,π.Perm (rem.erase i)->uh (OK ops) π->uh (OK ops) (i::π):=fun π hp R=>hW.2 ⟨fun k hk=>b6 k (kf (hp.mem_iff.1 hk)),R⟩
   have ad:∀ π,π.Perm (rem.erase i)->(i::π).Perm rem:=fun π hp=>(hp.cons i).trans (List.perm_cons_erase a3).symm
   have bs:(Db T s (is.getD i gS)).ok=bI:=by
    have e:=H (i::rem.erase i) (ad _ (ik _)) (ay _ (ik _) (a2 _ a9));refine pR (T:=T) (is:=is) (rem.erase i) ?_;have e2:runL T is (Db T s (is.getD i gS)) (rem.erase i)=r:=e;rw[e2];exact a7
   have I:=Ud (ds:=ds) (Q:=Q) (K:=wpAny P .any ops Q p (listed.setIfInBounds i bI)) hT av b1 hn hc.2 bs fun C w' g' b2 a8=>?_
   ·unfold wpOp;rw[cL U];simp only;split
    ·rename_i hw;rw[if_pos hw] at I;exact .inl I
    ·rename_i hw;rw[if_neg hw] at I;exact I
   ·refine ih (rem.erase i) _ a9 (fun k hk=>hb k (kf hk)) (by simpa using J) (fun k hk=>?_) (by rw[hZ a3];omega) (fun π hp R=>H (i::π) (ad π hp) (ay π hp R)) a8 b2;rw[au.mem_erase_iff]
    by_cases e:i=k
    ·subst e;simp[agD,J,U]
    ·rw[agD,Array.getElem?_setIfInBounds_ne e,← agD,R k hk];simp[Ne.symm e]
theorem zC(hT:Kq P T)(ae:QM vm){k id:Nat}{is:List Mb}{C:List (List Nat)}(R:gW P n ops vm ss k is C=bI)(h:FX F Iow w0 g0 o0 g w tmps vm [] s)(hn:tmps.size=n)(ac:(Us T k is C s).ok=bI)
  (hQ:∀ p w' g',p.size=n->FX F Iow w0 g0 o0 g' w' p vm ss (Us T k is C s)->Q .normal ⟨p,ds⟩ w'):(Code.region id ops bI).wp P Q ⟨tmps,ds⟩ w:=by
 simp only[gW,h9,beq_iff_eq,bR,l9,e5,kn,List.mem_range] at R;obtain⟨hm,hk,ab,au,aa,ax⟩:=R
 have I:(GB T is (iZ k s)).ok=bI∧RW T is (iZ k s) (GB T is (iZ k s)) C=bI:=by
  simpa[Us,rU] using ac
 have a0:({ w with drawn:=w.drawn+1 }:cS)=w.drew:=rfl;have av:=(h.slots (ss:=ss) hk (fun t ht=>by rw[hn];exact ab t ht)).grow (w':={ w with drawn:=w.drawn+1 }) (by rw[a0];exact AG.drew _ _)
 have J:runL T is (iZ k s) (fI ops.size)=GB T is (iZ k s):=by
  rw[← Vn,← au,fY]
 refine wp_region_any hm (zB hT ae (is:=is) (r:=GB T is (iZ k s)) (fun j hj=>aa j hj) I.1 (fun p w' g' aj hf=>hQ p w' g' aj ?_) ops.size (fI ops.size) _ List.pairwise_lt_range (fun i hi=>by simpa using hi) (by simp) (fun i hi=>?_) (by simp) (fun π hp hl=>?_) av hn)
 ·exact hf.setOk _
 ·simp[agD,hi]
 ·have U:∀ i,OK ops i i=bX:=by
   intro i;cases hd:OK ops i i with
   | false=>rfl
   | true=>
    unfold OK at hd;split at hd
    ·rename_i o ho
     have hj:i<ops.size:=by
      rcases hA i ops.size with h' | h'
      ·exact h'
      ·rw[k8 h'] at ho;cases ho
     have R:=aa i hj;unfold eq at R;rw[ho] at R;simp only[h9,hy,j3] at R hd;obtain⟨x,hx,hb,he⟩:=hd;have:=R.1 x hx;simp only[e5,cA,l9,beq_iff_eq] at this he;rcases this with e|e
     ·rw[hb] at e;cases e
     ·omega
    ·cases hd
  obtain⟨ρ,hρ,he⟩:=lL (f:=fun i s=>Db T s (is.getD i gS)) (fun i j s a1=>AGr a1) U ops.size (fI ops.size) (by simp) List.nodup_range π hp hl;have h1:runL T is (iZ k s) π=runL T is (iZ k s) ρ:=he _;rw[h1];rcases ax ρ hρ with e|e
  ·rw[e];exact J
  ·rw[← Vn];exact aD I.2 ρ e
end
def oH(P:e8)(n:Nat)(vm:List Nat):Code->IR->Bool
 | .skip,.skip=>bI
 | .label _,.skip=>bI
 | .region _ ops bX,.region bX is=>(OL P n ops vm [] ops.toList is).isSome
 | .seq (.region _ ops bX) (.cond c a b),.test bX is C a' p=>(match OL P n ops vm [] ops.toList is with
  | some ss=>BU vm ss c C
  | none=>bX)&&(oH P n vm a a'&&oH P n vm b p)
 | .region _ ops bI,.anyo k is alts .skip=>gW P n ops vm (AFc vm ops) k is alts
 | .seq (.region _ ops bI) (.cond c a b),.anyo k is alts (.cond C a' p)=>gW P n ops vm (AFc vm ops) k is alts&&(BU vm (AFc vm ops) c C&&(oH P n vm a a'&&oH P n vm b p))
 | .seq a b,.seq a' p=>oH P n vm a a'&&oH P n vm b p
 | .cond c a b,.cond C a' p=>BU vm [] c C&&(oH P n vm a a'&&oH P n vm b p)
 | .block i a,.block j a'=>i==j&&oH P n vm a a'
 | .loop a,.loop keep out rt a'=>keep.length==vm.length&&(out.length==vm.length&&(rt.length==vm.length&&oH P n vm a a'))
 | .exit i,.exit j=>i==j
 | .ret,.ret=>bI
 | c,.mask m a'=>m.length==vm.length&&oH P n vm c a'
 | _,_=>bX
def Va:Ex->lf
 | .norm=>.normal
 | .exit id=>.exit id
 | .ret=>.ret
theorem xq{s:St}:(lc s).ok=s.ok:=by
 unfold lc;cases s.ob<;>rfl
theorem Jp{m:List Bool}{s:St}:(kz m s).ok=s.ok:=by
 unfold kz;rw[xq];rfl
theorem Vy{m:List Bool}{r:FU}(h:(UT m r).2.ok=bI):r.2.ok=bI:=by
 obtain⟨e,s⟩:=r;cases e
 ·simpa only[UT,Jp] using h
 ·exact h
 ·exact h
theorem UX{f:St->FU}{keep ot rt:List Bool}(j:∀ s,(f s).2.ok=bI->s.ok=bI):∀ n s,(LU f keep ot rt n s).2.ok=bI->s.ok=bI
 | 0,s,h=>by simp[LU,fail] at h
 | n+1,s,h=>by
  simp only[LU] at h;have C:=UX (keep:=keep) (ot:=ot) (rt:=rt) j n;revert h;have h2:=j s;generalize f s=r at h2;intro h;obtain⟨e,s'⟩:=r;cases e
  ·simp only[KQ,KM] at h;have p:=C _ h;rw[Jp] at p;exact h2 p
  ·simp only[KQ,KM,Jp] at h;exact h2 h
  ·simp only[KQ,KM,Jp] at h;exact h2 h
theorem rT{T:Kc}{k:Nat}{is:List Mb}{j:List (List Nat)}{s:St}(h:(Us T k is j s).ok=bI):(GB T is (iZ k s)).ok=bI∧RW T is (iZ k s) (GB T is (iZ k s)) j=bI:=by
 simpa[Us,rU] using h
theorem EJ{T:Kc}{L:Nat}:∀ (I:IR) {s:St},(Bn T L I s).2.ok=bI->s.ok=bI
 | .skip,_,h=>h
 | .region _ is,s,h=>NL is (s:=s) h
 | .test _ is c a b,s,h=>by
  simp only[Bn,Th] at h;refine NL (T:=T) is (s:=s) ?_;cases C:rd (GB T is s) c<;>rw[C] at h<;>simp only[Nl,fail] at h<;>(try (cases h;done))
  split at h
  ·have j:=EJ a h;exact j
  ·have j:=EJ b h;exact j
 | .anyo k is alts .skip,s,h=>by
  simp only[Bn] at h;have j:=NL (T:=T) is (s:=iZ k s) (rT (s:=s) h).1;exact j
 | .anyo k is alts (.cond c a b),s,h=>by
  simp only[Bn,Th] at h
  have h2:(Us T k is alts s).ok=bI:=by
   cases C:rd (Us T k is alts s) c<;>rw[C] at h<;>simp only[Nl,fail] at h<;>(try (cases h;done))
   split at h
   ·have j:=EJ a h;exact j
   ·have j:=EJ b h;exact j
  have j:=NL (T:=T) is (s:=iZ k s) (rT h2).1;exact j
 | .anyo k is alts (.region _ _),s,h=>by simp[Bn,fail] at h
 | .anyo k is alts (.test _ _ _ _ _),s,h=>by simp[Bn,fail] at h
 | .anyo k is alts (.anyo _ _ _ _),s,h=>by simp[Bn,fail] at h
 | .anyo k is alts (.seq _ _),s,h=>by simp[Bn,fail] at h
 | .anyo k is alts (.block _ _),s,h=>by simp[Bn,fail] at h
 | .anyo k is alts (.loop _ _ _ _),s,h=>by simp[Bn,fail] at h
 | .anyo k is alts (.mask _ _),s,h=>by simp[Bn,fail] at h
 | .anyo k is alts (.exit _),s,h=>by simp[Bn,fail] at h
 | .anyo k is alts .ret,s,h=>by simp[Bn,fail] at h
 | .seq a b,s,h=>by
  simp only[Bn] at h;have p:=@EJ T L a s;revert h p;generalize Bn T L a s=r;intro h p;obtain⟨e,s'⟩:=r;cases e
  ·have j:=EJ b h;exact p j
  ·exact p h
  ·exact p h
 | .cond c a b,s,h=>by
  simp only[Bn] at h;cases C:rd s c<;>rw[C] at h<;>simp only[Nl,fail] at h<;>(try (cases h;done))
  split at h
  ·have j:=EJ a h;exact j
  ·have j:=EJ b h;exact j
 | .block id a,s,h=>by
  simp only[Bn] at h;have p:=@EJ T L a s;revert h p;generalize Bn T L a s=r;intro h p;obtain⟨e,s'⟩:=r;cases e
  ·exact p h
  ·refine p ?_;simp only[Qz] at h;rw[AM] at h;split at h<;>exact h
  ·exact p h
 | .loop keep out rt a,s,h=>by
  simp only[Bn] at h;have:=UX (f:=Bn T L a) (keep:=keep) (fun s h=>EJ a h) L (kz keep s) h
  rwa [Jp] at this
 | .mask m a,s,h=>by
  simp only[Bn] at h;exact EJ a (Vy h)
 | .exit _,_,h=>h
 | .ret,_,h=>h
theorem TH:∀ (m:List Bool) (tm:List AV),m.length=tm.length->(Ja m tm).length=tm.length
 | [],[],_=>rfl
 | [],_::_,h=>by simp at h
 | _::_,[],h=>by simp at h
 | b::m,a::tm,h=>by cases b<;>simp[Ja,TH m tm (by simpa using h)]
theorem ZA:∀ (m:List Bool) (tm:List AV) (i:Nat),(Ja m tm).getD i .any = .any∨(Ja m tm).getD i .any=tm.getD i .any
 | [],_,i=>.inl (by simp[Ja])
 | _::_,[],i=>.inl (by simp[Ja])
 | b::m,a::tm,0=>by cases b<;>simp[Ja]
 | b::m,a::tm,i+1=>by
  have:=ZA m tm i;cases b<;>simpa[Ja] using this
theorem Pq(j:List AV)(k:Nat):∀ ob:Cp,AK k (Qw j ob)=if j.any (fun a=>a.names k)=bI then AK k ob else ga
 | []=>by simp[Qw,AK]
 | p::r=>by
  have C:=Pq j k r;simp only[Qw,AM]
  by_cases h:j.any (fun a=>a.names p.1)=bI
  ·rw[if_pos h];simp only[AK,AM,beq_iff_eq]
   by_cases e:p.1=k
   ·subst e;simp[h]
   ·simp only[if_neg e,C]
  ·rw[if_neg h,C];simp only[AK,AM,beq_iff_eq]
   by_cases e:p.1=k
   ·subst e;simp[h]
   ·simp only[if_neg e]
theorem wg{p:Nat->Prop}:∀ m,p m->∃ m,p m∧∀ k,p k->m<=k:=by
 intro m
 induction m using Nat.strongRecOn with
 | _ m R=>
  intro h
  by_cases J:∃ k,k<m∧p k
  ·obtain⟨k,U,j⟩:=J;exact R k U j
  ·refine⟨m,h,fun k j=>?_⟩;rcases hA k m with C|I
   ·exact absurd ⟨k,C,j⟩ J
   ·exact I
def Po (p:Nat->Prop):Nat:=Classical.epsilon fun m=>p m∧∀ k,p k->m<=k
theorem NA{p:Nat->Prop}(h:∃ m,p m):p (Po p)∧∀ k,p k->Po p<=k:=by
 obtain⟨m,hm⟩:=h;exact Classical.epsilon_spec (wg m hm)
section
variable {F Iow:Nat->Prop}{w0:cS}{g0:Gh}{o0:Cp}{g:Gh}{w w':cS}{tmps:Array Value}{ds:List hE}{vm ss ss':List Nat}{s:St}{P:e8}{T:Kc}
 {Q:lf->Act->cS->Prop} {ops:Array iS} {n:Nat}
theorem FX.drop(h:FX F Iow w0 g0 o0 g w tmps vm ss s):FX F Iow w0 g0 o0 g w tmps vm [] (drop s) :=
 ⟨⟨h.home,h.inj,h.nF,h.fb,h.vl,rfl,h.vs,fun i hi=>by simp at hi,fun t j=>h.fit t (by rcases j with j|j;exact .inl j;simp at j),h.tab⟩,h.same,h.hio,h.fio,h.par⟩
theorem FX.keepB(h:FX F Iow w0 g0 o0 g w tmps vm [] s){m:List Bool}(hm:m.length=vm.length):FX F Iow w0 g0 o0 g w tmps vm [] (keepB m s):=by
 have C:∀ k j,AK k (Go.Proofs.YtegmpdmpgmpiaaaGreatDoor.keepB m s).ob=cI j->AK k s.ob=cI j:=by
  intro k j I;simp only[Go.Proofs.YtegmpdmpgmpiaaaGreatDoor.keepB,Pq] at I;split at I
  ·exact I
  ·cases I
 have p:∀ k,KY (Go.Proofs.YtegmpdmpgmpiaaaGreatDoor.keepB m s).ob k->KY s.ob k:=fun k ⟨j,I⟩=>⟨j,C k j I⟩
 have J:m.length=s.vs.length:=by rw[hm,h.vl]
 refine⟨⟨fun k j I=>(h.home k j (C k j I)).mono (dX _ _) (fun _=>rfl) fun b _ c=>Ii p c,fun k k' a b=>h.inj k k' ⟨p k a.1,a.2⟩ ⟨p k' b.1,b.2⟩,fun k a=>h.nF k ⟨p k a.1,a.2⟩,h.fb,
  by simp[Go.Proofs.YtegmpdmpgmpiaaaGreatDoor.keepB,TH m s.vs J,h.vl],rfl,fun i hi=>?_,fun i hi=>by simp at hi,h.fit,h.tab.mono (dX _ _) fun b _ c=>Ii p c⟩,h.same,fun k U=>h.hio k ⟨p k U.1,U.2⟩,h.fio,h.par.sub C⟩
 rcases ZA m s.vs i with e|e
 ·simp only[Go.Proofs.YtegmpdmpgmpiaaaGreatDoor.keepB];rw[e];exact SR.any
 ·have R:(Ja m s.vs).getD i .any∈Ja m s.vs:=by
   have:i<(Ja m s.vs).length:=by rw[TH m s.vs J,h.vl];exact hi
   rw[k7,geE this];exact e7 this
  have h1:=h.vs i hi;simp only[Go.Proofs.YtegmpdmpgmpiaaaGreatDoor.keepB];rw[← e] at h1;refine h1.mono (dX _ _) (fun b _ c=>Ii p c) fun k U j I=>⟨j,?_,rfl,rfl,rfl,rfl⟩
  rw[Pq,if_pos (gj.2 ⟨_,R,LR.2 U⟩)];exact I
theorem gR{k:Nat}:∀ (l seen:List Nat),k∈ddp seen l ↔ k∈l∧k ∉ seen
 | [],seen=>by simp[ddp]
 | x::r,seen=>by
  simp only[ddp,AM]
  by_cases h:(seen.any fun y=>y==x)=bI
  ·rw[if_pos h,gR r seen];have j:x∈seen:=by simpa using h
   simp only[ec];constructor
   ·rintro⟨a,b⟩;exact⟨.inr a,b⟩
   ·rintro⟨a|a,b⟩
    ·subst a;exact absurd j b
    ·exact⟨a,b⟩
  ·rw[if_neg h];have j:x ∉ seen:=by simpa using h
   simp only[ec,gR r (x::seen),not_or];constructor
   ·rintro (a|⟨a,b,c⟩)
    ·subst a;exact⟨.inl rfl,j⟩
    ·exact⟨.inr a,c⟩
   ·rintro⟨a|a,b⟩
    ·exact .inl a
    ·by_cases e:k=x
     ·exact .inl e
     ·exact .inr ⟨a,e,b⟩
theorem oK(j x:Nat):WT j x%32=31 ↔ x%32=31:=by
 unfold WT;rw[AM];split
 ·rfl
 ·rename_i h;simp only[beq_iff_eq] at h;omega
theorem Rj:∀ (ks:List Nat) (j k:Nat),pS ks j k%32=31 ↔ k%32=31
 | [],_,_=>Iff.rfl
 | x::r,j,k=>by
  simp only[pS,AM,beq_iff_eq];split
  ·rename_i e;subst e;exact oK j k
  ·exact Rj r (j+1) k
theorem Xi:∀ (ks:List Nat) (j k:Nat),k%32=31->pS ks j k=k
 | [],_,_,_=>rfl
 | x::r,j,k,h=>by
  simp only[pS,AM,beq_iff_eq];split
  ·rename_i e;subst e;unfold WT;rw[AM,if_pos (by simpa using h)]
  ·exact Xi r (j+1) k h
theorem mp:∀ (ks:List Nat) (j k:Nat),k∈ks->k%32≠31->∃ i,j<=i∧pS ks j k=32*(100000+i)∧∃ h:i-j<ks.length,ks[i-j]'h=k
 | [],_,_,h,_=>by simp at h
 | x::r,j,k,h,hm=>by
  simp only[pS,AM,beq_iff_eq]
  by_cases e:k=x
  ·subst e;rw[if_pos rfl];refine⟨j,j8 _,?_,by simp,by simp⟩;unfold WT;rw[AM,if_neg (by simpa using hm)]
  ·rw[if_neg e];rcases ec.1 h with p | p
   ·exact absurd p e
   ·obtain⟨i,J,h2,I,C⟩:=mp r (j+1) k p hm;refine⟨i,by omega,h2,?_,?_⟩
    ·simp only[l3];omega
    ·have:i-j=(i-(j+1))+1:=by omega
     simp only[this,List.getElem_cons_succ,C]
theorem AAA{ks:List Nat}{k j:Nat}(h:k∈ks)(C:j∈ks)(e:pS ks 0 k=pS ks 0 j):k=j:=by
 by_cases hm:k%32=31
 ·have p:j%32=31:=by rw[← Rj ks 0 j,← e,Rj];exact hm
  rwa [Xi _ _ _ hm,Xi _ _ _ p] at e
 ·have p:j%32≠31:=fun c=>hm (by rw[← Rj ks 0 k,e,Rj];exact c)
  obtain⟨i,_,a1,a2,J⟩:=mp ks 0 k h hm;obtain⟨i',_,U,R,I⟩:=mp ks 0 j C p;have:i=i':=by omega
  subst this;exact J.symm.trans I
theorem jr{π:Nat->Nat}{ob:Cp}:∀ (ks:List Nat),(∀ k p,k∈ks->p∈ks->π k=π p->k=p)->∀ j h,AK j (fU π ob ks)=cI h->∃ k,k∈ks∧j=π k∧AK k ob=cI h
 | [],_,j,h,e=>by simp[fU,AK] at e
 | k::r,hi,j,h,e=>by
  have R:=jr (ob:=ob) r (fun a b ha U=>hi a b (by simp[ha]) (by simp[U])) j h;simp only[fU] at e;cases C:AK k ob with
  | none=>
   rw[C] at e;obtain⟨a,J,h2,I⟩:=R e;exact⟨a,by simp[J],h2,I⟩
  | some hm=>
   rw[C] at e;simp only[dU,BN] at e;split at e
   ·rename_i e1;cases e
    exact⟨k,by simp,e1.symm,C⟩
   ·obtain⟨a,J,h2,I⟩:=R e;exact⟨a,by simp[J],h2,I⟩
theorem jq{π:Nat->Nat}{ob:Cp}:∀ (ks:List Nat),(∀ k p,k∈ks->p∈ks->π k=π p->k=p)->∀ k h,k∈ks->AK k ob=cI h->AK (π k) (fU π ob ks)=cI h
 | [],_,k,h,I,_=>by simp at I
 | x::r,hi,k,h,I,C=>by
  have J:=jq (ob:=ob) r (fun a b U R=>hi a b (by simp[U]) (by simp[R])) k h;simp only[fU]
  by_cases e:k=x
  ·subst e;rw[C];simp[dU,BN]
  ·have j:k∈r:=by
    rcases ec.1 I with c|c
    ·exact absurd c e
    ·exact c
   cases hx:AK x ob with
   | none=>exact J j C
   | some hm=>
    simp only[dU,BN];rw[if_neg fun c=>e (hi k x (by simp[j]) (by simp) c.symm)];exact J j C
theorem Oh.re{S S':Nat->Prop}{w:cS}{g g':Gh}{ob ob':Cp}{π:Nat->Nat}(R:∀ b,S' b->S b){v:Value}{a:AV}
  (I:∀ k,k∈a.key1->∀ h,AK k ob=cI h->AK (π k) ob'=cI h∧g'.β (π k)=g.β k∧g'.cap (π k)=g.cap k) (h:Oh S w g ob v a):Oh S' w g' ob' v (a.re1 π):=by
 cases a
 case own k=>
  obtain⟨hm,j,J⟩:=h;obtain⟨C,p,U⟩:=I k (by simp[AV.key1]) hm j;exact⟨hm,C,by rw[p,U];exact J⟩
 case ref k i off=>
  obtain⟨hm,j,hi,rfl⟩:=h;obtain⟨C,p,_⟩:=I k (by simp[AV.key1]) hm j;exact⟨hm,C,hi,by rw[p]⟩
 all_goals exact VR.mono (dX _ _) (fun b _ c=>R b c) h
theorem Pu(π:Nat->Nat)(l:List AV)(i:Nat):(l.map (AV.re1 π)).getD i .any=AV.re1 π (l.getD i .any):=Bv _ rfl l i
theorem SR.re{S S':Nat->Prop}{w:cS}{g g':Gh}{ob ob':Cp}{π:Nat->Nat}(J:∀ b,S' b->S b){v:Value}{a:AV}
  (R:∀ k,k∈a.keys->∀ h,AK k ob=cI h->AK (π k) ob'=cI h∧g'.β (π k)=g.β k∧g'.cap (π k)=g.cap k) (h:SR S w g ob v a):SR S' w g' ob' v (a.re π):=by
 cases a
 case fn f a1 a2=>
  obtain⟨v1,v2,rfl,n1,n2,h1,h2⟩:=h;refine⟨v1,v2,rfl,by simp[n1],by simp[n2],fun j C=>?_,fun j C=>?_⟩
  ·rw[Pu];refine (h1 j (by simpa using C)).re J fun k p=>R k ?_
   simp only[AV.keys,hO,bS];exact .inl (DL (by simpa using C) p)
  ·rw[Pu];refine (h2 j (by simpa using C)).re J fun k p=>R k ?_
   simp only[AV.keys,hO,bS];exact .inr (DL (by simpa using C) p)
 case tup ac=>
  obtain⟨vs,rfl,n,h1⟩:=h;refine⟨vs,rfl,by simp[n],fun j C=>?_⟩;rw[Pu];exact (h1 j (by simpa using C)).re J fun k p=>R k (DL (by simpa using C) p)
 case opt b a=>
  simp only[SR,AV.re] at h ⊢;split at h
  ·rename_i hb;rw[if_pos hb];exact h.re J R
  ·rename_i hb;rw[if_neg hb];exact h
 case own k=>exact Oh.re (w:=w) (a:=.own k) J (fun U I=>R U (by simpa[AV.keys,AV.key1] using I)) h
 case ref k i off=>exact Oh.re (w:=w) (a:=.ref k i off) J (fun U I=>R U (by simpa[AV.keys,AV.key1] using I)) h
 all_goals exact VR.mono (dX _ _) (fun b _ c=>J b c) h
theorem FX.canonK(h:FX F Iow w0 g0 o0 g w tmps vm [] s){ks:List Nat}(ac:∀ k,KY s.ob k->k∈ks):∃ g',FX F Iow w0 g0 o0 g' w tmps vm [] (canonK s ks):=by
 have J:=@AAA ks
 let π:=pS ks 0
 let σ:Nat->Nat:=fun j=>Classical.epsilon fun k=>k∈ks∧π k=j
 have hσ:∀ k,k∈ks->σ (π k)=k:=by
  intro k I;have:=Classical.epsilon_spec (p:=fun k'=>k'∈ks∧π k'=π k) ⟨k,I,rfl⟩;exact J this.1 I this.2
 have R:∀ j hm,AK j (Go.Proofs.YtegmpdmpgmpiaaaGreatDoor.canonK s ks).ob=cI hm->∃ k,k∈ks∧j=π k∧AK k s.ob=cI hm:=fun j hm U=>jr ks (fun _ _=>J) j hm U
 have aj:∀ k hm,AK k s.ob=cI hm->AK (π k) (Go.Proofs.YtegmpdmpgmpiaaaGreatDoor.canonK s ks).ob=cI hm:=fun k hm U=>jq ks (fun _ _=>J) k hm (ac k ⟨hm,U⟩) U
 let g':Gh:=⟨fun j=>g.β (σ j),fun j=>g.cap (σ j)⟩
 have C:∀ j,Ma g' (Go.Proofs.YtegmpdmpgmpiaaaGreatDoor.canonK s ks).ob j->Ma g s.ob (σ j)∧j=π (σ j):=by
  rintro j ⟨⟨hm,U⟩,hc⟩;obtain⟨k,I,rfl,ho⟩:=R j hm U;refine⟨⟨⟨hm,?_⟩,hc⟩,?_⟩
  ·rw[hσ k I];exact ho
  ·rw[hσ k I]
 have hS:∀ b,AS F g' (Go.Proofs.YtegmpdmpgmpiaaaGreatDoor.canonK s ks).ob b->AS F g s.ob b:=by
  rintro b (hb|⟨j,hj,e⟩)
  ·exact .inl hb
  ·exact .inr ⟨σ j,(C j hj).1,e⟩
 refine⟨g',⟨fun j hm U=>?_,fun j j' a b e=>?_,fun j a=>h.nF (σ j) (C j a).1,h.fb,by simpa[Go.Proofs.YtegmpdmpgmpiaaaGreatDoor.canonK] using h.vl,rfl,fun i hi=>?_,fun i hi=>by simp at hi,h.fit,h.tab.mono (dX _ _) fun b _ c=>hS b c⟩,h.same,fun j hj=>h.hio (σ j) (C j hj).1,h.fio,fun j hm hj U=>?_⟩
 ·obtain⟨k,I,rfl,ho⟩:=R j hm U;have:=h.home k hm ho;have e1:g'.β (π k)=g.β k:=by simp only[g'];rw[hσ k I]
  have e2:g'.cap (π k)=g.cap k:=by simp only[g'];rw[hσ k I]
  rw[e1,e2];exact this.mono (dX _ _) (fun _=>rfl) fun b _ c=>hS b c
 ·obtain⟨a1,a2⟩:=C j a;obtain⟨b1,b2⟩:=C j' b;have:=h.inj (σ j) (σ j') a1 b1 e;rw[a2,b2,this]
 ·have h1:=h.vs i hi;simp only[Go.Proofs.YtegmpdmpgmpiaaaGreatDoor.canonK];rw[Bv _ rfl];refine h1.re hS fun k I hm ho=>⟨aj k hm ho,?_,?_⟩
  ·simp only[g'];rw[hσ k (ac k ⟨hm,ho⟩)]
  ·simp only[g'];rw[hσ k (ac k ⟨hm,ho⟩)]
 ·obtain⟨k,I,rfl,ho⟩:=R j hm U;have ad:k%32=31:=(Rj ks 0 k).1 hj;have e0:π k=k:=Xi ks 0 k ad;obtain⟨h0,p1,p2,p3,p4⟩:=h.par k hm ad ho;refine⟨h0,by rw[e0];exact p1,p2,p3,fun e=>?_⟩;have e1:g'.β (π k)=g.β k:=by simp only[g'];rw[hσ k I]
  have e2:g'.cap (π k)=g.cap k:=by simp only[g'];rw[hσ k I]
  rw[e1,e2,e0];exact p4 e
theorem FX.keepS(h:FX F Iow w0 g0 o0 g w tmps vm [] s){m:List Bool}(hm:m.length=vm.length):∃ g',FX F Iow w0 g0 o0 g' w tmps vm [] (kz m s):=by
 have C:=h.keepB hm;unfold Go.Proofs.YtegmpdmpgmpiaaaGreatDoor.keepS lc;cases ho:(Go.Proofs.YtegmpdmpgmpiaaaGreatDoor.keepB m s).ob with
 | nil=>exact⟨g,C⟩
 | cons p r=>
  refine C.canonK fun k R=>?_
  rw[gR];refine⟨?_,by simp⟩;obtain⟨J,j⟩:=R;simp only[Go.Proofs.YtegmpdmpgmpiaaaGreatDoor.keepB,Pq] at j;split at j
  ·rename_i I;obtain⟨a,ha,U⟩:=gj.1 I;exact j6.2 ⟨a,ha,LR.1 U⟩
  ·cases j
theorem Zi(h:FR F g w tmps vm ss s){c:kR}{j:Src}(p:BU vm ss c j=bI){b:Bool}(C:rd s j = .bool b):({ tmps:=tmps,defers:=ds }:Act).eval c = .bool b:=by
 have:=h.src (ds:=ds) p;rw[C] at this;exact Nz this
theorem tE{L:Nat}{c:Code}{f:St->FU}{keep out rt:List Bool}(hk:keep.length=vm.length)(ho:out.length=vm.length)(aa:rt.length=vm.length)
  (body:∀ {Q:lf->Act->cS->Prop} {s:St} {g:Gh} {w:cS} {tmps:Array Value},FX F Iow w0 g0 o0 g w tmps vm [] s->tmps.size=n->(f s).2.ok=bI ->
   (∀ j w' g',j.size=n->FX F Iow w0 g0 o0 g' w' j vm [] (f s).2->Q (Va (f s).1) ⟨j,ds⟩ w')->c.wp P Q ⟨tmps,ds⟩ w)
  (hf:∀ s,(f s).2.ok=bI->s.ok=bI)
  (h:FX F Iow w0 g0 o0 g w tmps vm [] s) (hn:tmps.size=n) (p:(LU f keep out rt L (kz keep s)).2.ok=bI)
  (hK:∀ j w' g',j.size=n->FX F Iow w0 g0 o0 g' w' j vm [] (LU f keep out rt L (kz keep s)).2->Q (Va (LU f keep out rt L (kz keep s)).1) ⟨j,ds⟩ w'):(Code.loop c).wp P Q ⟨tmps,ds⟩ w:=by
 generalize hr:LU f keep out rt L (kz keep s)=r at p hK
 let J:Nat->Act->cS->Prop:=fun m a w=>∃ tmps s g,a=⟨tmps,ds⟩∧tmps.size=n∧FX F Iow w0 g0 o0 g w tmps vm [] s∧LU f keep out rt m s=r
 obtain⟨g1,h1⟩:=h.keepS hk;refine wp_loop (fun a w=>∃ m,J m a w) (fun a w=>Po fun m=>J m a w) ⟨L,tmps,_,g1,rfl,hn,h1,hr⟩ fun a w hI=>?_
 have R:=(NA hI).1;revert R;generalize Po (fun m=>J m a w)=m;rintro⟨tmps,s,g,rfl,hn,ac,hit⟩;cases m with
 | zero=>rw[← hit] at p;simp[LU,fail] at p
 | succ m=>
  simp only[LU] at hit
  have U:(f s).2.ok=bI:=by
   rw[← hit] at p;revert p;generalize f s=q;intro p;obtain⟨e,s'⟩:=q;cases e
   ·simp only[KQ,KM] at p;have h3:=UX hf m _ p;rwa [Jp] at h3
   ·simpa only[KQ,KM,Jp] using p
   ·simpa only[KQ,KM,Jp] using p
  refine body ac hn U fun j w' g' I C=>?_
  revert hit C;generalize f s=q;intro hit C;obtain⟨e,s'⟩:=q;cases e
  ·simp only[KQ,KM] at hit;simp only[Va,Exit.then];obtain⟨g2,h2⟩:=FX.keepS C hk;have hJ:J m ⟨j,ds⟩ w':=⟨j,_,g2,rfl,I,h2,hit⟩;exact⟨⟨m,hJ⟩,Nat.lt_succ_of_le ((NA ⟨m,hJ⟩).2 m hJ)⟩
  ·simp only[KQ,KM] at hit;subst hit;obtain⟨g2,h2⟩:=FX.keepS C ho;exact hK _ _ _ I h2
  ·simp only[KQ,KM] at hit;subst hit;obtain⟨g2,h2⟩:=FX.keepS C aa;exact hK _ _ _ I h2
theorem KK{L:Nat}(hT:Kq P T)(U:QM vm):∀ (c:Code) (ir:IR) {Q:lf->Act->cS->Prop} {s:St} {g:Gh} {w:cS} {tmps:Array Value},oH P n vm c ir=bI->FX F Iow w0 g0 o0 g w tmps vm [] s->tmps.size=n->(Bn T L ir s).2.ok=bI ->
  (∀ R w' g',R.size=n->FX F Iow w0 g0 o0 g' w' R vm [] (Bn T L ir s).2->Q (Va (Bn T L ir s).1) ⟨R,ds⟩ w')->c.wp P Q ⟨tmps,ds⟩ w
 | c,ir,Q,s,g,w,tmps,hc,h,hn,p,I=>by
  unfold oH at hc;split at hc
  ·exact wp_skip (I _ _ _ hn h)
  ·exact wp_label (I _ _ _ hn h)
  ·rename_i id ops is;obtain⟨ss',hs⟩:=zX hc;simp only[Bn] at p I;exact wp_region_list (Vz hT U ops.toList is h hn hs p fun R w' g' J C=>I _ _ _ J C.drop)
  ·rename_i id ops c a b is c' a' b';simp only[h9] at hc;obtain⟨ab,av,au⟩:=hc;split at ab
   ·rename_i ss' hs;simp only[Bn,Th] at p I
    have aj:(GB T is s).ok=bI:=by
     cases hv:rd (GB T is s) c'<;>rw[hv] at p<;>simp only[Nl,fail] at p<;>(try (cases p;done))
     split at p
     ·have h3:=EJ a' p;exact h3
     ·have h3:=EJ b' p;exact h3
    refine wp_seq (wp_region_list (Vz hT U ops.toList is h hn hs aj fun R w' g' J C=>?_));simp only[Exit.then];cases hv:rd (GB T is s) c'<;>rw[hv] at p I<;>simp only[Nl,fail] at p I<;>(try (cases p;done))
    rename_i bv;refine wp_cond (Zi C.toFR ab hv) ?_;cases bv
    ·simp only[bfT,if_false] at p I ⊢;exact KK hT U b b' au C.drop J p I
    ·simp only[if_true] at p I ⊢;exact KK hT U a a' av C.drop J p I
   ·cases ab
  ·rename_i id ops k is alts;simp only[Bn] at p I;exact zC hT U hc h hn p fun R w' g' J C=>I _ _ _ J C.drop
  ·rename_i id ops c a b k is alts c' a' b';simp only[h9] at hc;obtain⟨ab,av,au,a5⟩:=hc;simp only[Bn,Th] at p I
   have aj:(Us T k is alts s).ok=bI:=by
    cases hv:rd (Us T k is alts s) c'<;>rw[hv] at p<;>simp only[Nl,fail] at p<;>(try (cases p;done))
    split at p
    ·have h3:=EJ a' p;exact h3
    ·have h3:=EJ b' p;exact h3
   refine wp_seq (zC hT U ab h hn aj fun R w' g' J C=>?_);simp only[Exit.then];cases hv:rd (Us T k is alts s) c'<;>rw[hv] at p I<;>simp only[Nl,fail] at p I<;>(try (cases p;done))
   rename_i bv;refine wp_cond (Zi C.toFR av hv) ?_;cases bv
   ·simp only[bfT,if_false] at p I ⊢;exact KK hT U b b' a5 C.drop J p I
   ·simp only[if_true] at p I ⊢;exact KK hT U a a' au C.drop J p I
  ·rename_i a b a' b';simp only[h9] at hc;simp only[Bn] at p I
   have ao:(Bn T L a' s).2.ok=bI:=by
    revert p;generalize Bn T L a' s=r;intro p;obtain⟨e,s'⟩:=r;cases e
    ·have h3:=EJ b' p;exact h3
    ·exact p
    ·exact p
   refine wp_seq (KK hT U a a' hc.1 h hn ao fun R w' g' J C=>?_);revert p I C;generalize Bn T L a' s=r;intro p I C;obtain⟨e,s'⟩:=r;cases e
   ·exact KK hT U b b' hc.2 C J p I
   ·exact I _ _ _ J C
   ·exact I _ _ _ J C
  ·rename_i c a b c' a' b';simp only[h9] at hc;obtain⟨ab,av,au⟩:=hc;simp only[Bn] at p I;cases hv:rd s c'<;>rw[hv] at p I<;>simp only[Nl,fail] at p I<;>(try (cases p;done))
   rename_i bv;refine wp_cond (Zi h.toFR ab hv) ?_;cases bv
   ·simp only[bfT,if_false] at p I ⊢;exact KK hT U b b' au h hn p I
   ·simp only[if_true] at p I ⊢;exact KK hT U a a' av h hn p I
  ·rename_i i a j a';simp only[h9,beq_iff_eq] at hc;obtain⟨rfl,hc⟩:=hc;simp only[Bn] at p I
   have ao:(Bn T L a' s).2.ok=bI:=by
    revert p;generalize Bn T L a' s=r;intro p;obtain⟨e,s'⟩:=r;cases e
    ·exact p
    ·simp only[Qz] at p;rw[AM] at p;split at p<;>exact p
    ·exact p
   refine wp_block (KK hT U a a' hc h hn ao fun R w' g' J C=>?_);revert p I C;generalize Bn T L a' s=r;intro p I C;obtain⟨e,s'⟩:=r;cases e
   ·exact I _ _ _ J C
   ·rename_i k;simp only[Va,Exit.inBlock];simp only[Qz,AM,beq_iff_eq] at I
    by_cases e:k=i
    ·rw[if_pos e];rw[if_pos e] at I;exact I _ _ _ J C
    ·rw[if_neg e];rw[if_neg e] at I;exact I _ _ _ J C
   ·exact I _ _ _ J C
  ·rename_i a keep out rt a';simp only[h9,beq_iff_eq] at hc;obtain⟨hk,ho,a4,hc⟩:=hc;simp only[Bn] at p I;exact tE hk ho a4 (fun {Q s g w tmps} C J a2 a6=>KK hT U a a' hc C J a2 a6) (fun s hs=>EJ a' hs) h hn p I
  ·rename_i i j;simp only[beq_iff_eq] at hc;subst hc;exact wp_exit (I _ _ _ hn h)
  ·exact wp_ret (I _ _ _ hn h)
  ·rename_i m a';simp only[h9,beq_iff_eq] at hc;obtain⟨hm,hc⟩:=hc;simp only[Bn] at p I;refine KK hT U _ a' hc h hn (Vy p) fun R w' g' J C=>?_
   revert p I C;generalize Bn T L a' s=r;intro p I C;obtain⟨e,s'⟩:=r;cases e
   ·obtain⟨g2,h2⟩:=FX.keepS C hm;exact I _ _ _ J h2
   ·exact I _ _ _ J C
   ·exact I _ _ _ J C
  ·cases hc
end
