/- Lemmas. No condition. -/
import Derived.Test.YtegmpdmpgmpiaaaGreatDoorP2
import Derived.ProofKit
import Derived.OpenShut
import Derived.Test.YtegmpdmpgmpiaaaGreatDoorRows
import Derived.Lib.ItoaNum
import Derived.Lib.SlicesCompact
import Derived.Lib.Split
import Derived.Lib.Join
import Derived.Lib.ParseIntB
import Derived.Lib.Repeat
import Derived.Lib.Slices
import Derived.Lib.SlTrimSet
open Bool renaming false->bI,true->bN,false_ne_true->b',noConfusion->cS,and_eq_true_iff->ef,not_eq_true'->en,and_self->fA
open Classical renaming epsilon->dw,choose->ea
open Decidable renaming decide->bo
open Go renaming Program->bR,undef->c8,FuncId->cA,World->c',ResultVar->e3,TypeDesc->e5,results->fB
open Go.IntKind renaming i64->bs,u8->bX,signed->dc,wrap->dT,bits->dU
open Go.Lib renaming split->cd,cut->e4,itoa->e6,minOf->ev,maxOf->ew,compareBytes->eL,trimPrefix->fx,join->fy
open Go.Op renaming bytesLess->cw
open Go.Proofs.YtegmpdmpgmpiaaaGreatDoor.Rs renaming bad->cc
open Inhabited renaming default->a'
open List renaming map->bS,map_cons->c6,getD_cons_zero->cb,getElem?_map->cf,getElem?_range->cn,range->ct,getElem?_cons_zero->cB,all_eq_true->cI,replicate->df,flatMap_cons->d',map_nil->e7,length_replicate->e8,getElem?_eq_none->e9,mem_of_getElem?->ed,getD_cons_succ->eg,length_append->ek,getElem_mem->eo,map_append->et,length_map->eu,mem_cons->fa,map_take->fm,map_drop->fp,all_cons->fs
open Nat renaming le_refl->cl,zero_add->db,zero_mul->fI,lt_or_ge->ga,le_total->gb
open Option renaming some->b9,none->c7,getD_some->ej
open Option.some renaming injEq->cm,inj->dx
set_option linter.defProp false
set_option linter.unusedSimpArgs false
set_option linter.unusedVariables false
open Go.IntKind (i64 u64)
noncomputable section
namespace Go.Proofs.YtegmpdmpgmpiaaaGreatDoor
@[go_sem]abbrev AV.i(x:Int):AV:=.int .i64 x
open Go Go.RowKit
def ABs(P:bR)(vm:List Nat):e3->sR->Bool
 |.tmp t,.t n=>vm[n]? == b9 t
 |.cell a t,.cell agg sz p=>vm[p]? == b9 a&&(pj P t==b9 agg&&Wq P t==b9 sz)
 |_,_=>bI
def jc(P:bR)(vm:List Nat):List e3->List sR->Bool
 |[],[]=>bN
 |a::r,b::q=>ABs P vm a b&&jc P vm r q
 |_,_=>bI
def AAT:List Nat->Bool
 |[]=>bN
 |a::r=>!r.contains a&&AAT r
def WL(P:bR)(f:cA)(fn:Bg)(vm:List Nat):Bool :=
 match P.funcs[f]? with
 |none=>bI
 | some fu=>!(fu.name == "runtime.NumGoroutine")&&(match fu.body with
  |none=>bI
  | some c=>AAT vm&&(vm.length==fn.nv&&(bo (fn.np<=fn.nv)&&(vm.take fn.np==ct fn.np&&(vm.all (fun t=>decide (t<fu.ntmps)) &&
    (bo (fu.results.size<=4)&&(jc P vm fu.results.toList fn.res&&rp P fu.ntmps vm c fn.body)))))))
def nK(tmps:Array Value):e3->Sem Value
 |.tmp t=>pure (tmps.getD t c8)
 |.cell a t=>do loadVar t (←asAddr (tmps.getD a c8))
section
variable {F Iow:Nat->Prop}{w0:c'}{g0:Gh}{o0:Cx}{g:Gh}{w w':c'}{tmps:Array Value}{ds:List Deferred}{vm ss ss':List Nat}{s:St}{P:bR}{T:Le}
def yv(h:FR F g w tmps vm ss s){n t:Nat}(j:vm[n]? = b9 t):SR (AR F g s.ob) w g s.ob (tmps.getD t c8) (s.vs.getD n .any):=by
 have hl:n<vm.length:=by
  rcases ga n vm.length with C |C
  .exact C
  .rw[e9 C]at j;cases j
 have:=h.vs n hl;rw[gdE (l:=vm),j]at this;exact this
def AEW(h:FR F g w tmps vm ss s){J:e3}{rs:sR}(C:ABs P vm J rs=bN)(j:(RW s rs).ok=bN):
  ∃u,(nK tmps J).run P w = .ok u w/\SR (AR F g s.ob) w g s.ob u (RW s rs).v:=by
 unfold ABs at C;split at C
 .rename_i t n;simp only[beq_iff_eq]at C;exact⟨_,rfl,yv h C⟩
 .rename_i a t agg sz p;simp only[baT,beq_iff_eq]at C;obtain⟨h1,h2,h3⟩:=C;have R:=yv h h1;simp only[RW]at j ⊢;revert j;generalize s.vs.getD p .any=av at R;intro j;cases av<;>simp only[ZE,bad]at j<;>try(cases j;done)
  rename_i k i off;obtain⟨ad,u,e,U,I,_⟩:=oA (P:=P) h h2 h3 R j;refine⟨u,?_,I.toSR⟩;simp[nK,e,asAddr,U]
 .cases C
def nM{fu:Func}{vs:List Value}(C:fu.results.size<=4)(hl:vs.length=fu.results.size)(h:∀j rv,fu.results.toList[j]? = b9 rv->(nK tmps rv).run P w = .ok (vs.getD j c8) w):
  (fB fu tmps).run P w = .ok (match vs with |[a]=>a|_=>.tuple vs.toArray) w:=by
 obtain⟨l,R⟩:∃l,fu.results=l.toArray:=⟨fu.results.toList,p'⟩;rw[R]at C hl h;simp only[List.size_toArray]at C hl
 have U:fB fu tmps=(do let vs ←fu.results.mapM (nK tmps);pure (if h:vs.size=1 then vs[0]else .tuple vs)):=by
  unfold fB
  congr 1
 rw[U,R]
 match l,vs,hl,C,h with
 |[],[],_,_,_=>simp
 | [a],[x],_,_,h=>
  have I:=h 0 a rfl;simp at I;simp[I]
 | [a,b],[x,y],_,_,h=>
  have I:=h 0 a rfl;have J:=h 1 b rfl;simp at I J;simp[I,J]
 | [a,b,c],[x,y,z],_,_,h=>
  have I:=h 0 a rfl;have J:=h 1 b rfl;have h2:=h 2 c rfl;simp at I J h2;simp[I,J,h2]
 | [a,b,c,d],[x,y,z,u],_,_,h=>
  have I:=h 0 a rfl;have J:=h 1 b rfl;have h2:=h 2 c rfl;have h3:=h 3 d rfl;simp at I J h2 h3;simp[I,J,h2,h3]
 |_::_::_::_::_::_,_,_,C,_=>simp at C
def nN(h:FR F g w tmps vm ss s):∀(I:List e3) (rs:List sR),jc P vm I rs=bN->((rs.map (RW s)).all (·.ok))=bN ->
  ∃ vs:List Value,vs.length=I.length/\vs.length=rs.length/\(∀j U,I[j]? = b9 U->(nK tmps U).run P w = .ok (vs.getD j c8) w) /\
   ∀j,j<rs.length->SR (AR F g s.ob) w g s.ob (vs.getD j c8) (((rs.map (RW s)).map (·.v)).getD j .any)
 |[],[],_,_=>⟨[],rfl,rfl,fun j U C=>by simp at C,fun j C=>by simp at C⟩
 |[],_::_,R,_=>by simp[jc]at R
 |_::_,[],R,_=>by simp[jc]at R
 | a::r,b::q,R,J=>by
  simp only[jc,baT]at R;simp only[c6,fs,baT]at J;obtain⟨u,h1,h2⟩:=AEW h R.1 J.1;obtain⟨vs,n1,n2,h3,h4⟩:=nN h r q R.2 J.2;refine⟨u::vs,by simp[n1],by simp[n2],fun j U C=>?_,fun j C=>?_⟩
  .cases j with
   |zero=>simp only[cB,cm]at C;subst C;exact h1
   |succ j=>exact h3 j U (by simpa using C)
  .cases j with
   |zero=>exact h2
   |succ j=>simpa using h4 j (by simpa using C)
def ABM{S:Nat->Prop}{ob:Cx}{v:Value}{a:AV}(h:SR S w g ob v a)(j:(DI ob a).ok=bN):yj S w g ob (a.key1.headD 0) v (DI ob a).v/\(KB (DI ob a).v=bN->a.key1=[a.key1.headD 0])/\(∀cs,(DI ob a).v ≠ .tup cs):=by
 cases a<;>simp only[DI,bad,EK]at j ⊢<;>try(cases j;done)
 case own k=>
  obtain⟨hm,C,I⟩:=h;simp only[C,kg,EK];exact⟨⟨C,I⟩,fun _=>rfl,fun cs e=>by cases e⟩
 case ref k i off=>
  obtain⟨hm,C,hi,I⟩:=h;simp only[C,kd,GW,baT,beq_iff_eq]at j ⊢;obtain⟨rfl,rfl,hl⟩:=j;exact⟨⟨C,hl,by rw[I,fI];rfl⟩,fun _=>rfl,fun cs e=>by cases e⟩
 case fn f a1 a2=>
  simp only[GW]at j ⊢;refine⟨?_,fun e=>by simp[KB]at e,fun cs e=>by cases e⟩;have J:(AV.fn f a1 a2).atoms=bN:=by simpa[AV.atoms,AV.cells,AV.atom]using j
  exact h.atoms J
 all_goals exact⟨h,fun e=>by simp[KB]at e,fun cs e=>by cases e⟩
def kj:∀(l:List AV) (i j:Nat),FA (l.flatMap AV.key1)=bN->i<j->j<l.length->∀k,k∈(l.getD i .any).key1->k∈(l.getD j .any).key1->False
 |[],_,_,_,_,h,_,_,_=>by simp at h
 | a::l,0,j+1,hd,_,C,k,I,h2=>by
  simp only[d']at hd;refine(Jr hd).2 k (by simpa using I) (DW (j:=j) (by simpa using C) (by simpa using h2))
 | a::l,i+1,j+1,hd,J,C,k,I,h2=>by
  simp only[d']at hd;exact kj l i j (Jr hd).1 n' (by simpa using C) k (by simpa using I) (by simpa using h2)
 |_::_,0,0,_,h,_,_,_,_=>by omega
 |_::_,_+1,0,_,h,_,_,_,_=>n'
def Vt:∀(ms:List Md) (i j:Nat),ms[j]? = b9 .io->AF (i+j)∈Kn ms i
 |[],_,j,h=>by simp at h
 | m::ms,i,0,h=>by
  simp only[cB,cm]at h;subst h;simp[Kn]
 | m::ms,i,j+1,h=>by
  have:=Vt ms (i+1) j (by simpa using h);rw[show i+(j+1)=i+1+j by omega];cases m<;>simp only[Kn,fa]<;>first|exact this|exact .inr this
def jo(ob:Cx):∀(ms:List Md) (i:Nat) (C:List AV) (j:Nat),ms[j]? = b9 .io->ms.length=C.length->(WM ob ms i C)[j]? = b9 (RP ob (i+j) (C.getD j .any) .io)
 |[],_,_,j,h,_=>by simp at h
 |_::_,_,[],_,_,h=>by simp at h
 | m::ms,i,a::C,0,h,_=>by
  simp only[cB,cm]at h;subst h;simp[WM]
 | m::ms,i,a::C,j+1,h,hl=>by
  have:=jo ob ms (i+1) C j (by simpa using h) (by simpa using hl);rw[show i+(j+1)=i+1+j by omega];simpa[WM]using this
end
open Go Go.RowKit
variable{P:bR}{f:cA}
def LD{fu:Func}{c:Code}(I:P.funcs[f]? = b9 fu)(hb:fu.body=b9 c)(C:(fu.name == "runtime.NumGoroutine")=bI)(args:Array Value)(w:c'):
  (callFunc f args).run P w = .ok (.enter f args) w:=by
 have j:¬ fu.name = "runtime.NumGoroutine":=by simpa using C
 simp[callFunc,I,hb,j]
def oU{P:bR}{vm:List Nat}{np:Nat}(h:vm.take np=ct np){i:Nat}(hi:i<np):vm.getD i 0=i/\i<vm.length:=by
 have hl:np<=vm.length:=by
  have:=congrArg List.length h;simp at this;omega
 refine⟨?_,n'⟩;have:(vm.take np)[i]? = b9 i:=by rw[h];exact cn hi
 rw[List.getElem?_take]at this;simp only[hi,if_true]at this;rw[gdE,this];rfl
def AGX{F:Nat->Prop}{g0 g:Gh}{w w':c'}{args:List AV}{modes:List Md}{tmps:Array Value}{vm:List Nat}{s:St}{ms:List Mk}{vs:List Value}
  (bz:GN modes args=bN) (h:FX F (fun b=>∃k,Mo g0 (BN 0 args) k/\g0.β k=b) w g0 (BN 0 args) g w' tmps vm [] s) (hn:vs.length=ms.length)
  (hv:∀j,j<ms.length->SR (AR F g s.ob) w' g s.ob (vs.getD j c8) ((ms.map (·.v)).getD j .any)) (be:(bM s modes args ms).ok=bN) :
  fH F g0 args modes w (match vs with |[a]=>a|_=>.tuple vs.toArray) w' (bM s modes args ms).r (bM s modes args ms).outs g s.ob (fun i=>(((ms.map (·.v)).getD (i-1) .any).key1).headD 0):=by
 simp only[bM,baT]at be ⊢;obtain⟨_,_,R,ab,ax⟩:=be;obtain⟨hlen,ba⟩:=Qg _ _ bz;generalize b0:ms.map (·.v)=rs at R ab hv ⊢;have J:rs.length=ms.length:=by rw[←b0];simp
 simp only[ka,baT]at R;obtain⟨a6,b6⟩:=R
 have I:∀j,j<rs.length->yj (AR F g s.ob) w' g s.ob ((rs.getD j .any).key1.headD 0) (vs.getD j c8) (DI s.ob (rs.getD j .any)).v/\(KB (DI s.ob (rs.getD j .any)).v=bN->(rs.getD j .any).key1=[(rs.getD j .any).key1.headD 0]) /\
   (∀cs,(DI s.ob (rs.getD j .any)).v ≠ .tup cs):=by
  intro j hj;refine ABM (hv j n') ?_;simp only[cI]at ab;refine ab _ (List.mem_map.2 ⟨rs.getD j .any,?_,rfl⟩);rw[gdE,geE hj];exact eo hj
 have ae:∀j,j<rs.length->(((rs.map (DI s.ob)).map (·.v))).getD j .any=(DI s.ob (rs.getD j .any)).v:=by
  intro j hj;simp[gdE,cf,geE hj]
 have ao:∀i,Kd (YJ ((rs.map (DI s.ob)).map (·.v))) i->i-1<rs.length/\KB (DI s.ob (rs.getD (i-1) .any)).v=bN/\((rs.length=1/\i=0)\/(2<=rs.length/\1<=i)):=by
  intro i hi
  match rs,I,ae,hi with
  |[],_,_,hi=>simp[YJ,Kd,KB]at hi
  | [a],I,_,hi=>
   have U:=(I 0 p').2.2;simp only[c6,e7,YJ,cb]at hi U;revert hi U;generalize hx:(DI s.ob a).v=x;intro hi U
   have:i=0/\KB x=bN:=by
    cases x<;>first|exact absurd rfl (U _)|exact hi
   obtain⟨rfl,hf⟩:=this;simp only[List.length_singleton,Nat.zero_sub,cb,hx];exact⟨n',hf,p'⟩
  | a::b::r,_,ae,hi=>
   simp only[c6,Kd]at hi;obtain⟨j,rfl,hj,hf⟩:=hi;have au:j<(a::b::r).length:=by simpa using hj
   have:=ae j au;simp only[c6]at this;rw[this]at hf;exact⟨by simpa using au,by simpa using hf,.inr ⟨p',n'⟩⟩
 refine⟨h.same,h.home,h.inj,h.nF,h.hio,?_,fun i j hi hj e=>?_,fun i j hi hj e=>?_,fun j hj=>?_⟩
 .match rs,vs,I,ae,J,hn with
  |[],[],_,_,_,_=>exact VR.cv
  | [a],[v],I,_,_,_=>
   have h1:=I 0 p';simp only[c6,e7,YJ,cb]at h1 ⊢;obtain⟨h1,_,U⟩:=h1;revert h1 U;generalize(DI s.ob a).v=x;intro h1 U;cases x<;>first|exact absurd rfl (U _)|exact h1
  | a::b::r,v::u::vs,I,ae,J,hn=>
   simp only[c6];refine⟨_,rfl,by simp at J hn ⊢;omega,fun j hj=>?_⟩;have au:j<(a::b::r).length:=by simpa using hj
   have h1:=(I j au).1;have h2:=ae j au;simp only[c6]at h2;rw[h2,Qa];exact h1
  |[],_::_,_,_,J,hn=>simp at J hn;omega
  |[_],[],_,_,J,hn=>simp at J hn;omega
  |[_],_::_::_,_,_,J,hn=>simp at J hn;omega
  |_::_::_,[],_,_,J,hn=>simp at J hn;omega
  |_::_::_,[_],_,_,J,hn=>simp at J hn;omega
 .obtain⟨a1,a2,a3⟩:=ao i hi;obtain⟨b1,b2,b3⟩:=ao j hj;have k1:=(I _ a1).2.1 a2;have k2:=(I _ b1).2.1 b2;have e':(rs.getD (i-1) .any).key1.headD 0=(rs.getD (j-1) .any).key1.headD 0:=e;have m1:(rs.getD (i-1) .any).key1.headD 0∈(rs.getD (i-1) .any).key1:=by rw[k1];simp
  have m2:(rs.getD (i-1) .any).key1.headD 0∈(rs.getD (j-1) .any).key1:=by rw[e',k2];simp
  have:i-1=j-1:=by
   rcases Nat.lt_trichotomy (i-1) (j-1)with a8|heq|a8
   .exact(kj rs _ _ a6 a8 b1 _ m1 m2).elim
   .exact heq
   .exact(kj rs _ _ a6 a8 a1 _ m2 m1).elim
  omega
 .obtain⟨a1,a2,_⟩:=ao i hi;have k1:=(I _ a1).2.1 a2;have m1:(rs.getD (i-1) .any).key1.headD 0∈rs.flatMap AV.key1:=DW a1 (by rw[k1];simp);have m2:=Vt modes 0 j hj;rw[db]at m2;have e':(rs.getD (i-1) .any).key1.headD 0=AF j:=e;rw[←e']at m2;exact cK b6 m1 m2
 .have hb:=jo s.ob modes 0 args j hj hlen;rw[db]at hb
  have C:(RP s.ob j (args.getD j .any) .io).ok=bN:=by
   simp only[cI]at ax;exact ax _ (ed hb)
  have b5:j<args.length:=by
   rcases ga j args.length with h' |h'
   .exact h'
   .rw[e9 n']at hj;cases hj
  have az:=(ba j b5).2.1 (by rw[gdE,hj];rfl);simp only[RP]at C hb;cases ho:AK (AF j) s.ob with
  |none=>rw[ho]at C;simp[cH,bad]at C
  | some hm=>
   rw[ho]at C hb;simp only[cH,GW,beq_iff_eq]at C hb;obtain⟨h0,p1,p2,p3,p4⟩:=h.par (AF j) hm (by unfold AF;omega) ho;rw[IX]at p1
   have bb:((WM s.ob modes 0 args).map (·.v)).getD j .any=(bif iy (args.getD j .any)then .mem hm.sz hm.els 0 else .fresh hm.sz hm.els):=by
    rw[gdE,cf,hb];rfl
   rw[bb];revert az p1 C;generalize args.getD j .any=aj;intro az C p1;cases aj<;>simp only[Ho]at az<;>try(cases az;done)
   .rename_i sz e0;have p1:=dx p1;subst p1;have C:hm.els.length=e0.length:=C;have p2:hm.sz=sz:=p2;obtain⟨q1,q2⟩:=p4 C;exact⟨sz,e0,hm.els,.inl ⟨rfl,by simp[iy,p2]⟩,C,by rw[←p2],q1,q2⟩
   .rename_i sz e0 ix;have p1:=dx p1;subst p1;have C:hm.els.length=e0.length:=C;have p2:hm.sz=sz:=p2;obtain⟨q1,q2⟩:=p4 C;exact⟨sz,e0,hm.els,.inr ⟨ix,0,rfl,by simp[iy,p2]⟩,C,by rw[←p2],q1,q2⟩
variable{T:Le}{fn:Bg}{vm:List Nat}
def ABR(hT:Ls P T)(hc:WL P f fn vm=bN)(L:Nat)(modes:List Md):Cd P f ⟨modes,bI,fun args=>PZ T L fn modes args⟩:=by
 unfold Cd;refine⟨fun e=>cS e,fun F g0 w args vargs ax a8 I aj=>⟨fun e=>cS e,?_⟩⟩;simp only at ax aj ⊢;unfold WL at hc;split at hc
 .cases hc
 rename_i fu hf;simp only[baT,en]at hc;obtain⟨ao,hc⟩:=hc;split at hc
 .cases hc
 rename_i c hb;simp only[baT,beq_iff_eq,dtE,cI]at hc;obtain⟨b6,b4,b5,U,ae,ba,a1,a6⟩:=hc;unfold DJ;rw[LD hf hb ao];simp only[PZ,ABt,baT,fits,beq_iff_eq]at aj ⊢;obtain⟨⟨_,bh,b8⟩,C⟩:=aj
 have b0:fn.np<=fu.ntmps:=by
  rcases Nat.eq_zero_or_pos fn.np with e|e
  .omega
  .obtain⟨h1,h2⟩:=oU (P:=P) U (i:=fn.np-1) n';have:=ae (vm.getD (fn.np-1) 0) (by rw[gdE,geE h2];exact eo h2);omega
 have b3:vargs.size=fn.np:=by rw[a8,bh]
 have a7:∀i,i<fn.np->(vargs++Array.replicate (fu.ntmps-vargs.size) c8).getD i c8=vargs.getD i undef:=fun i hi=>by
  rw[QS,if_pos n']
 have be:FX F (fun b=>∃k,Mo g0 (BN 0 args) k/\g0.β k=b) w g0 (BN 0 args) g0 w (vargs++Array.replicate (fu.ntmps-vargs.size) c8) vm [] (Xb fn.nv args):=by
  refine⟨⟨I.home,I.inj,I.nF,I.fb,?_,rfl,fun i hi=>?_,fun i hi=>by simp at hi,fun t ht=>?_,I.tab⟩,AD.refl _ _,fun k hk=>.inr ⟨k,hk,rfl⟩,fun b hb ⟨k,hk,e⟩=>I.nF k hk (by rw[e];exact hb),fun k hm _ hg=>⟨hm,hg,rfl,cl _,fun _=>⟨rfl,rfl⟩⟩⟩
  .simp only[Xb,ek,Ko,e8];omega
  .simp only[Xb];rw[Jq,Ko]
   by_cases ab:i<args.length
   .rw[if_pos ab];have h1:=I.vs i (by simpa using ab);have e1:(ct args.length).getD i 0=i:=by rw[gdE,cn ab];rfl
    rw[e1]at h1;rw[(oU (P:=P) U n').1,a7 i n'];exact h1
   .rw[if_neg ab]
    have:(df (fn.nv-args.length) AV.any).getD (i-args.length) .any = .any:=by
     rw[gdE,List.getElem?_replicate];split<;>rfl
    rw[this];exact SR.any
  .rcases ht with ht|ht
   .have:=ae t ht;simp;omega
   .simp at ht
 have hN:(vargs++Array.replicate (fu.ntmps-vargs.size) c8).size=fu.ntmps:=t'
 refine calls_of_wp hf hb ?_;generalize hE:CH T L fn.body (Xb fn.nv args)=r at C
 have az:r.2.ok=bN:=by
  obtain⟨e,s'⟩:=r;cases e<;>simp only[Ok,bM,cc,baT]at C
  .exact C.1
  .cases C
  .exact C.1
 refine LM (T:=T) (L:=L) (ds:=[]) hT trivial c fn.body a6 be hN (by rw[hE];exact az) fun R w' g' b7 J=>?_
 rw[hE]at J ⊢
 have done:∀s',r.2=s'->Ok fn modes args r=bM s' modes args (fn.res.map (RW s'))->({ tmps:=R,defers:=[] }:Act).defers=[]/\∃v,(fB fu R).run P w' = .ok v w' /\
   ∃v' g ob κ,Ending.returned v=Ending.returned v'/\fH F g0 args modes w v' w' (Ok fn modes args r).r (Ok fn modes args r).outs g ob κ:=by
  intro s' e1 e2;rw[e1]at J;rw[e2]at C ⊢
  have ad:((fn.res.map (RW s')).all (·.ok))=bN:=by
   simp only[bM,baT]at C;exact C.2.1
  obtain⟨vs,n1,n2,ay,hrel⟩:=nN (P:=P) J.toFR fu.results.toList fn.res a1 ad;have hB:=AGX (ms:=fn.res.map (RW s')) (vs:=vs) ax J (by simpa using n2) (fun j hj=>hrel j (by simpa using hj)) C;exact⟨rfl,_,nM ba (by simpa using n1) ay,_,_,_,_,rfl,hB⟩
 obtain⟨e,s'⟩:=r;cases e
 .exact done s' rfl rfl
 .simp[Ok,cc]at C
 .exact done s' rfl rfl
def iv{f f':St->FM}{keep ot rt:List Bool}(I:∀s,(f s).2.ok=bN->f' s=f s)(j:∀s,(f s).2.ok=bN->s.ok=bN):∀n m s,n<=m->(Og f keep ot rt n s).2.ok=bN->Og f' keep ot rt m s=Og f keep ot rt n s
 |0,_,s,_,h=>by simp[Og,fail]at h
 |n+1,0,s,hm,_=>by omega
 | n+1,m+1,s,hm,h=>by
  simp only[Og]at h ⊢
  have C:(f s).2.ok=bN:=by
   revert h;generalize f s=r;intro h;obtain⟨e,s'⟩:=r;cases e
   .simp only[MV,MM]at h;have J:=Vo j n _ h;rwa [Kj]at J
   .simpa only[MV,MM,Kj]using h
   .simpa only[MV,MM,Kj]using h
  rw[I s C];revert h;generalize f s=r;intro h;obtain⟨e,s'⟩:=r;cases e
  .simp only[MV,MM]at h ⊢;exact iv I j n m _ n' h
  .rfl
  .rfl
def IZ{T:Le}{L M:Nat}(j:L<=M):∀(J:IR) {s:St},(CH T L J s).2.ok=bN->CH T M J s=CH T L J s
 |.skip,_,_=>rfl
 |.region _ is,s,_=>rfl
 | .test _ is c a b,s,h=>by
  simp only[CH,Uy]at h ⊢;cases I:rd (Gj T is s) c<;>rw[I]at h<;>simp only[Om,fail]at h ⊢
  split at h
  .rename_i hb;rw[if_pos hb,if_pos hb];exact IZ j a h
  .rename_i hb;rw[if_neg hb,if_neg hb];exact IZ j b h
 |.anyo k is alts .skip,s,h=>rfl
 | .anyo k is alts (.cond c a b),s,h=>by
  simp only[CH,Uy]at h ⊢;cases I:rd (WP T k is alts s) c<;>rw[I]at h<;>simp only[Om,fail]at h ⊢
  split at h
  .rename_i hb;rw[if_pos hb,if_pos hb];exact IZ j a h
  .rename_i hb;rw[if_neg hb,if_neg hb];exact IZ j b h
 |.anyo k is alts (.region _ _),s,h=>rfl
 |.anyo k is alts (.test _ _ _ _ _),s,h=>rfl
 |.anyo k is alts (.anyo _ _ _ _),s,h=>rfl
 |.anyo k is alts (.seq _ _),s,h=>rfl
 |.anyo k is alts (.block _ _),s,h=>rfl
 |.anyo k is alts (.loop _ _ _ _),s,h=>rfl
 |.anyo k is alts (.mask _ _),s,h=>rfl
 |.anyo k is alts (.exit _),s,h=>rfl
 |.anyo k is alts .ret,s,h=>rfl
 | .seq a b,s,h=>by
  simp only[CH]at h ⊢
  have C:(CH T L a s).2.ok=bN:=by
   revert h;generalize CH T L a s=r;intro h;obtain⟨e,s'⟩:=r;cases e
   .have R:=Ej b h;exact R
   .exact h
   .exact h
  rw[IZ j a C];revert h;generalize CH T L a s=r;intro h;obtain⟨e,s'⟩:=r;cases e
  .exact IZ j b h
  .rfl
  .rfl
 | .cond c a b,s,h=>by
  simp only[CH]at h ⊢;cases I:rd s c<;>rw[I]at h<;>simp only[Om,fail]at h ⊢
  split at h
  .rename_i hb;rw[if_pos hb,if_pos hb];exact IZ j a h
  .rename_i hb;rw[if_neg hb,if_neg hb];exact IZ j b h
 | .block id a,s,h=>by
  simp only[CH]at h ⊢
  have C:(CH T L a s).2.ok=bN:=by
   revert h;generalize CH T L a s=r;intro h;obtain⟨e,s'⟩:=r;cases e
   .exact h
   .simp only[YP]at h;rw[AM]at h;split at h<;>exact h
   .exact h
  rw[IZ j a C]
 | .loop keep out rt a,s,h=>by
  simp only[CH]at h ⊢;exact iv (f:=CH T L a) (f':=CH T M a) (fun s hs=>IZ j a hs) (fun s hs=>Ej a hs) L M (keepS keep s) j h
 | .mask m a,s,h=>by
  simp only[CH]at h ⊢;rw[IZ j a (XU h)]
 |.exit _,_,_=>rfl
 |.ret,_,_=>rfl
variable{modes:List Md}{r:AV}
def xy{args:List AV}{r:FM}(h:(Ok fn modes args r).ok=bN):r.2.ok=bN:=by
 obtain⟨e,s⟩:=r;cases e<;>simp only[Ok,bM,cc,baT]at h
 .exact h.1
 .cases h
 .exact h.1
def iK{L M:Nat}(j:L<=M){args:List AV}(h:(PZ T L fn modes args).ok=bN):PZ T M fn modes args=PZ T L fn modes args:=by
 simp only[PZ,ABt,baT]at h ⊢;rw[IZ j fn.body (xy h.2)]
def kK(T:Le)(fn:Bg)(modes:List Md)(args:List AV):Rs :=PZ T (dw fun L=>(PZ T L fn modes args).ok=bN) fn modes args
def kJ{T:Le}{L:Nat}{fn:Bg}{modes:List Md}{args:List AV}{r:Rs}(h:PZ T L fn modes args=r)(j:r.ok=bN):kK T fn modes args=r:=by
 have I:(PZ T L fn modes args).ok=bN:=by rw[h];exact j
 have C:(kK T fn modes args).ok=true:=Classical.epsilon_spec (p:=fun L=>(PZ T L fn modes args).ok=bN) ⟨L,I⟩;unfold kK at C ⊢;generalize(dw fun L=>(PZ T L fn modes args).ok=bN)=M at C ⊢;rw[←h];rcases gb L M with hle|hle
 .exact iK hle I
 .exact(iK hle C).symm
def MI:List (Nat×Ao)->Le
 |[],_=>c7
 |p::r,f=>bif f==p.1 then b9 p.2 else MI r f
def Oe{P:bR}:∀{l:List (Nat×Ao)},(∀p,p∈l->Cd P p.1 p.2)->Ls P (MI l)
 |[],_,f,C,h=>by simp[MI]at h
 | p::r,hl,f,C,h=>by
  simp only[MI,AM,beq_iff_eq]at h;split at h
  .rename_i e;simp only[cm]at h;subst h;subst e;exact hl p p'
  .exact Oe (fun q j=>hl q (by simp[j])) f C h
def tK:∀p,p∈([]:List (Nat×Ao))->Cd P p.1 p.2:=fun p h=>by simp at h
variable{l:List (Nat×Ao)}
def NV{f:Nat}{C:Ao}(h:Cd P f C)(hl:∀p,p∈l->Cd P p.1 p.2):∀p,p∈(f,C)::l->Cd P p.1 p.2:=by
 intro p j;rcases fa.1 j with e|j
 .subst e;exact h
 .exact hl p j
def ALP(q:Rs):Rs:=⟨q.ok&&PP q.r,q.r,q.outs⟩
def Vi(l:List (Nat×Ao))(fn:Bg)(modes:List Md):Ao:=⟨modes,bI,kK (MI l) fn modes⟩
def CV(l:List (Nat×Ao))(fn:Bg)(modes:List Md):Ao:=⟨modes,bN,fun args=>ALP (kK (MI l) fn modes args)⟩
def AMo(modes:List Md):Ao:=⟨modes,bI,fun _=>cc⟩
def sN:Cd P f (AMo modes):=by
 unfold Cd;exact⟨fun e=>cS e,fun F g0 w args vargs I C J j=>by simp[AMo,cc]at j⟩
def AOc{args:List AV}(L:Nat){outs:List AV}(h:PZ (MI l) L fn modes args=⟨bN,r,outs⟩):(Vi l fn modes).F args=⟨bN,r,outs⟩:=kJ h rfl
def AOe{args:List AV}(L:Nat){outs:List AV}(h:PZ (MI l) L fn modes args=⟨bN,r,outs⟩)(j:PP r=bN):(CV l fn modes).F args=⟨bN,r,outs⟩:=by
 simp only[CV,ALP];rw[kJ h rfl];simp[j]
def XX(U:Ls P T)(R:WL P f fn vm=bN)(modes:List Md):Cd P f ⟨modes,bI,kK T fn modes⟩:=by
 unfold Cd;refine⟨fun e=>cS e,fun F g0 w args vargs C j J I=>?_⟩;exact(ABR U R (dw fun L=>(PZ T L fn modes args).ok=bN) modes).2 F g0 w args vargs C j J I
def xO(modes:List Md)(hl:∀p,p∈l->Cd P p.1 p.2)(j:WL P f fn vm=bN):Cd P f (Vi l fn modes):=XX (Oe hl) j modes
def xQ(modes:List Md)(hm:AAU modes=bN)(hl:∀p,p∈l->Cd P p.1 p.2)(R:WL P f fn vm=bN):Cd P f (CV l fn modes):=by
 have h:=XX (Oe hl) R modes;unfold Cd at h ⊢;refine⟨fun _=>hm,fun F g0 w args vargs I C J j=>?_⟩;simp only[CV,ALP,baT]at j ⊢;exact⟨fun _=>j.2,(h.2 F g0 w args vargs I C J j.1).2⟩
def mkZ(l:List (Nat×Ao))(fn:Bg)(modes:List Md):Ao:=⟨modes,bI,fun args=>⟨(kK (MI l) fn modes args).ok,RY (kK (MI l) fn modes args).r,(kK (MI l) fn modes args).outs⟩⟩
def AHE{args:List AV}{outs:List AV}(h:∃C,∀L,C<=L->APQ (PZ (MI l) L fn modes args)=⟨bN,r,outs⟩):(mkZ l fn modes).F args=⟨bN,r,outs⟩:=by
 obtain⟨L,h⟩:=h;have h:=h L (cl _);have j:(PZ (MI l) L fn modes args).ok=true:=congrArg Rs.ok h;simp only[mkZ];rw[kJ (r:=PZ (MI l) L fn modes args) rfl j];exact h
def JE(p:Nat->Bool):Cx->Cx
 |[]=>[]
 |q::r=>bif p q.1 then JE p r else q::JE p r
def Vf(p:Nat->Bool)(k:Nat):∀ob:Cx,AK k (JE p ob)=if p k=bN then c7 else AK k ob
 |[]=>by simp[JE,AK]
 | q::r=>by
  have J:=Vf p k r
  by_cases I:p q.1=bN
  .by_cases C:p k=bN
   .simp[JE,AM,I,C,J]
   .have j:q.1≠k:=fun e=>C (e▸I)
    simp[JE,AK,AM,I,C,J,j]
  .by_cases C:p k=bN
   .have j:q.1≠k:=fun e=>I (e▸C)
    simp[JE,AK,AM,I,C,J,j]
   .simp[JE,AK,AM,I,C,J]
def xv(a:AV):KB (Ym a)=bI:=by cases a<;>rfl
def RC{i:Nat}(h:Kd (RY r) i):False:=by
 cases r
 case tup cs=>
  obtain⟨j,_,I,C⟩:=h;have:(cs.map Ym).getD j .any=Ym (cs.getD j .any):=CA _ rfl _ _;rw[this,xv]at C;cases C
 all_goals
  simp only[RY,Ym,Kd,KB]at h;first|exact absurd h.2 b'|(simp at h)
open Classical in
def cF{F:Nat->Prop}{g0 g:Gh}{w w':c'}{args:List AV}{v:Value}{outs:List AV}{ob:Cx}{κ:Nat->Nat}
  (B:fH F g0 args modes w v w' r outs g ob κ):fH F g0 args modes w v w' (RY r) outs g (JE (fun k=>decide (∃i,Kd r i/\κ i=k)) ob) κ:=by
 have aa:∀k,AK k (JE (fun k=>decide (∃i,Kd r i/\κ i=k)) ob)=if(∃i,Kd r i/\κ i=k)then c7 else AK k ob:=by
  intro k;rw[Vf];simp
 have C:∀k h,AK k (JE (fun k=>decide (∃i,Kd r i/\κ i=k)) ob)=b9 h->AK k ob=b9 h/\¬ ∃i,Kd r i/\κ i=k:=by
  intro k h R;rw[aa]at R;split at R
  .cases R
  .rename_i hn;exact⟨R,hn⟩
 have J:∀k,Lb (JE (fun k=>decide (∃i,Kd r i/\κ i=k)) ob) k->Lb ob k:=fun k ⟨h,R⟩=>⟨h,(C k h R).1⟩
 have I:∀b,AR F g (JE (fun k=>decide (∃i,Kd r i/\κ i=k)) ob) b->AR F g ob b:=fun b hb=>Jc J hb
 have one:∀{i:Nat} {u:Value} {a:AV},(KB a=bN->Kd r i)->yj (AR F g ob) w' g ob (κ i) u a->yj (AR F g (JE (fun k=>decide (∃i,Kd r i/\κ i=k)) ob)) w' g (JE (fun k=>decide (∃i,Kd r i/\κ i=k)) ob) (κ i) u (Ym a):=by
  intro i u a hf hu
  have blk:∀{sz:Nat} {els:List AV},Kd r i->AK (κ i) ob=b9 ⟨sz,els⟩->VR (AR F g (JE (fun k=>decide (∃i,Kd r i/\κ i=k)) ob)) w' (.slice (b9 ⟨g.β (κ i),0,c7⟩) els.length (g.cap (κ i))) (.sl sz els)/\(g.cap (κ i)=0->VR (AR F g (JE (fun k=>decide (∃i,Kd r i/\κ i=k)) ob)) w' (.slice c7 0 0) (.sl sz els))/\∀i0 off,i0<els.length->VR (AR F g (JE (fun k=>decide (∃i,Kd r i/\κ i=k)) ob)) w' (.pointer (b9 ⟨g.β (κ i),i0*sz+off,c7⟩)) (.ptr sz els i0 off):=fun{sz els} az R=>by
   have hH:=B.home (κ i) ⟨sz,els⟩ R;obtain⟨rr,ab⟩:=hH.cell
   exact hH.sl (S':=AR F g (JE (fun k=>decide (∃i,Kd r i/\κ i=k)) ob)) ab I fun hp c=>by
    have hl:Mo g ob (κ i):=⟨⟨_,R⟩,hp⟩;rcases c with c|⟨k,hk,e⟩
    .exact B.nF _ hl c
    .obtain⟨⟨h',ay⟩,au⟩:=hk;obtain⟨h1,h2⟩:=C k h' ay;have:=B.inj k (κ i) ⟨⟨h',h1⟩,au⟩ hl e;exact h2 ⟨i,az,this.symm⟩
  cases a
  case fresh sz els=>
   obtain⟨q1,q2,_⟩:=blk (hf rfl) hu.1;show VR _ _ _ _;rcases hu.2 with e|⟨e0,e⟩
   .rw[e];exact q1
   .rw[e];exact q2 e0
  case mem sz els ix=>
   obtain⟨_,_,q3⟩:=blk (hf rfl) hu.1;obtain⟨_,bh,e⟩:=hu;have:=q3 0 0 n';rw[fI,db]at this;rw[e];exact this
  all_goals exact VR.mono (AD.refl _ _) (fun b _ c=>I b c) hu
 refine⟨B.same,fun k h R=>(B.home k h (C k h R).1).mono (AD.refl _ _) (fun _=>rfl) fun b _ c=>I b c,fun k k' a b=>B.inj k k' ⟨J k a.1,a.2⟩ ⟨J k' b.1,b.2⟩,fun k a=>B.nF k ⟨J k a.1,a.2⟩,fun k a=>B.hio k ⟨J k a.1,a.2⟩,?_,
  fun i j hi _ _=>(RC hi).elim,fun i j hi _ _=>(RC hi).elim,fun j hj=>?_⟩
 .have U:=B.val;cases r
  case tup cs=>
   obtain⟨vs,rfl,hn,aj⟩:=U;refine⟨vs,rfl,by simpa using hn,fun j hj=>?_⟩;have ae:j<cs.length:=by simpa using hj
   have e:(cs.map Ym).getD j .any=Ym (cs.getD j .any):=CA _ rfl _ _;rw[e];exact one (fun hf=>⟨j,rfl,ae,hf⟩) (aj j ae)
  all_goals exact one (fun hf=>⟨rfl,hf⟩) U
 .obtain⟨sz,e0,els,h1,h2,h3,h4⟩:=B.out j hj;refine⟨sz,e0,els,h1,h2,?_,h4⟩;rw[aa,if_neg]
  .exact h3
  .rintro⟨i,hi,e⟩;exact B.κio i j hi hj e
def ie{b:Bool}{P:bR}{f:cA}{C:Ao}{fu:Func}{c:Code}(hC:Cd P f C)(hf:P.funcs[f]? = b9 fu)(hb:fu.body=b9 c)(hn:(fu.name == "runtime.NumGoroutine")=bI)
  {args:List AV} {vargs:Array Value} {w:c'} (aj:vargs.size=args.length) (ax:GN C.modes args=bN) (aa:args.all (fun a=>!Ho a)=bN) (hv:∀j,j<args.length->VR C' w (vargs.getD j c8) (args.getD j .any)) (az:GT C' w) {outs:List AV}
  (hF:C.F args=⟨bN,.bool b,outs⟩):Calls P f vargs w fun e w'=>e = .returned (.bool b)/\AD C' w w':=by
 have J:∀j,Ho (args.getD j .any)=bI:=by
  intro j;simp only[cI,en]at aa;rw[gdE];cases hj:args[j]? with
  |none=>rfl
  |some a=>exact aa a (ed hj)
 have ay:∀k,AK k (BN 0 args)=c7:=by
  intro k;cases hg:AK k (BN 0 args)with
  |none=>rfl
  | some hm=>
   obtain⟨j,_,hf⟩:=Kp hg;have:=J j;revert hf this;generalize args.getD j .any=x;intro hf this;cases x<;>simp[IC,Ho]at hf this
 have I:∀k,¬ Lb (BN 0 args) k:=fun k ⟨hm,hg⟩=>by rw[ay k]at hg;cases hg
 have a1:FR C' ⟨fun _=>0,fun _=>0⟩ w vargs (ct args.length) [] (Mh args):=by
  refine⟨fun k hm hg=>(I k ⟨hm,hg⟩).elim,fun k _ R=>(I k R.1).elim,fun k R=>(I k R.1).elim,fun b hb=>hb.elim,by simp[Mh,Ko],rfl,fun j hj=>?_,fun j hj=>by simp at hj,fun t ht=>?_,az.mono (AD.refl _ _) fun b _ hb=>?_⟩
  .have ab:j<args.length:=by simpa using hj
   have e1:(ct args.length).getD j 0=j:=by rw[gdE,cn ab];rfl
   rw[e1];simp only[Mh];rw[Ln _ 0 j ab,db]
   have e2:YO j (args.getD j .any)=args.getD j .any:=by
    have:=J j;revert this;generalize args.getD j .any=x;intro this;cases x<;>first|rfl|(simp[Ho]at this)
   rw[e2];refine((hv j ab).mono (AD.refl _ _) fun b _ hb=>?_).toSR;rcases hb with hb|⟨k,R,_⟩
   .exact hb
   .exact I k R.1
  .rcases ht with ht|ht
   .rw[aj];simpa using ht
   .simp at ht
  .rcases hb with hb|⟨k,R,_⟩
   .exact hb
   .exact I k R.1
 have h:=(hC.2 _ _ w args vargs ax aj a1 (by rw[hF])).2;rw[hF]at h;unfold DJ at h;rw[LD hf hb hn]at h;refine Calls.mono h fun e w' he=>?_
 obtain⟨v,g,ob,κ,rfl,B⟩:=he;have U:=B.val;simp only[RV,yj]at U;refine⟨?_,B.same.mono fun b _ ⟨k,R,_⟩=>(I k R.1).elim⟩;cases U
 rfl
end Go.Proofs.YtegmpdmpgmpiaaaGreatDoor
namespace Go.Proofs.YtegmpdmpgmpiaaaGreatDoor
open Go Go.RowKit Go.ChangeShapes Go.WideShapes Go.ChangeAt
def AD.kept{w w':c'}(h:AD C' w w')(j:MemPlace->Prop):w.keptBut w' j:=by
 refine⟨h.os,h.output,fun i hi=>?_⟩;rw[h.block i hi fun c=>c];cases hb:w.heap[i]? with
 |none=>rfl
 |some o=>cases o<;>first|exact⟨rfl,rfl,rfl,fun _ _=>rfl⟩|exact .inr ⟨rfl,rfl⟩|rfl
def AD.frozen{w w':c'}(h:AD C' w w'){b off:Nat}(hb:b<w.heap.size):w'.frozen? ⟨b,off,c7⟩=w.frozen? ⟨b,off,c7⟩:=by
 simp only[World.frozen?,h.block b hb fun c=>c]
section
variable {P:bR}{H:Type}{enc:TypeId×Value->H}
def xE{f:Func}{s:ChangeSpec}{aa fresh U ad:Bool}{W W':c'}{args:Array Value}{v:Value}{ds gs:List (DataW H)}{C pa pv:List MemPlace}
  (hW:DataW.Whole enc P f.params.toList s.vars aa W args.toList ds gs C) (hs:AD C' W W')
  (ab:∀(b:Nat) (sp:Nat->Bool) (hd:Bool),DataW.TrodAll enc P W' b sp hd f.resultTypes.toList (v.resultList f.resultTypes.size) (s.fn H (ds++gs)).results [])
  (R:∀sp:Nat->Bool,(∀p∈C,sp p.block=bN)->DataW.TrodAll enc P W' 0 sp bN f.params.toList args.toList (s.fn H (ds++gs)).args pa)
  (J:∀sp:Nat->Bool,(∀p∈C,sp p.block=bN)->DataW.TrodVars enc P W' sp s.vars (s.fn H (ds++gs)).vars pv)
  (ax:C=pa++pv)
  (ay:∀(j:Nat) (t:TypeId) (r:Value),f.resultTypes[j]? = b9 t->(v.resultList f.resultTypes.size)[j]? = b9 r->Value.okWide P W' .any 0 t r) :
  s.post enc P f aa fresh U ad W args v W':=by
 have au:=hW.lt;have I:∀p∈C,(fun b=>decide (b<W.heap.size)) p.block=true:=fun p hp=>by simpa using au p hp
 have whole:=hW;obtain⟨_,_,_,_,_,hz,hn⟩:=whole;subst ax;refine⟨ds,gs,pa++pv,[],pa,pv,hW,ab _ _ _,R _ I,J _ I,hs.kept _,fun _=>⟨ay,_,_,([]++pa)++pv,⟨[]++pa,pv,trodAll_append (R _ fun _ _=>rfl) (ab _ _ _),J _ fun _ _=>rfl,rfl,fun b off hp=>?_,fun ha=>by simpa using hn ha⟩,fun p hp _=>by simpa using hp⟩⟩;have aj:MemPlace.cell b off∈pa++pv:=by simpa using hp
 have az:b<W.heap.size:=au _ aj;rw[hs.frozen az];exact hz b off aj
end
end Go.Proofs.YtegmpdmpgmpiaaaGreatDoor
namespace Go.Proofs.YtegmpdmpgmpiaaaGreatDoor
open Go
theorem yT(x:Rs):ABt bN x=x:=rfl
def imp2(a:Bool):(!a||a)=bN:=by cases a<;>rfl
def yd(a:Bool):(a==bN)=a:=by cases a<;>rfl
def sM(a:Bool):(a==bI) = !a:=by cases a<;>rfl
def ALc(a b:Bool):(bif a then b else bI)=(a&&b):=by cases a<;>rfl
def ALb(a b:Bool):(bif a then bN else b)=(a||b):=by cases a<;>rfl
variable{α:Type}
theorem Yj(a b:α):(bif bN then a else b)=a:=rfl
theorem XH(a b:α):(bif bI then a else b)=b:=rfl
attribute [go_sem] yT imp2 yd sM ALc ALb Yj XH
attribute [go_sem] mo cc AV.names AV.kill AV.atoms bad EK GW IJ Js Bn my cut Yo TW bm clear Tq EH fail apart killAll Uv QQ Lo DT VC MA PN Qk Zs Mn Pa rM Dp drop keepB Xq canonK pS keepS XN slots vu WP Uy AF Xb APQ ka bM fits ABt PZ
attribute [go_sem] AV.cells.eq_1 AV.cells.eq_2 AV.cells.eq_3 AV.cells.eq_4 AV.cells.eq_5 AV.cells.eq_6 AV.cells.eq_7 AV.cells.eq_8 AV.cells.eq_9 AV.cells.eq_10 AV.cells.eq_11 AV.cells.eq_12 AV.cells.eq_13 AV.cells.eq_14 AV.cells.eq_15 AV.cells.eq_16
attribute [go_sem] AV.isAgg.eq_1 AV.isAgg.eq_2
attribute [go_sem] rd.eq_1 rd.eq_2 rd.eq_3
attribute [go_sem] AK.eq_1 AK.eq_2
attribute [go_sem] DM.eq_1 DM.eq_2
attribute [go_sem] MU.eq_1 MU.eq_2
attribute [go_sem] AV.key1.eq_1 AV.key1.eq_2 AV.key1.eq_3 AV.key1.eq_4 AV.key1.eq_5 AV.key1.eq_6 AV.key1.eq_7 AV.key1.eq_8 AV.key1.eq_9 AV.key1.eq_10 AV.key1.eq_11 AV.key1.eq_12 AV.key1.eq_13 AV.key1.eq_14 AV.key1.eq_15 AV.key1.eq_16
attribute [go_sem] AV.keys.eq_1 AV.keys.eq_2 AV.keys.eq_3 AV.keys.eq_4 AV.keys.eq_5 AV.keys.eq_6 AV.keys.eq_7 AV.keys.eq_8 AV.keys.eq_9 AV.keys.eq_10 AV.keys.eq_11 AV.keys.eq_12 AV.keys.eq_13 AV.keys.eq_14 AV.keys.eq_15 AV.keys.eq_16
attribute [go_sem] AV.fz1.eq_1 AV.fz1.eq_2 AV.fz1.eq_3 AV.fz1.eq_4 AV.fz1.eq_5 AV.fz1.eq_6 AV.fz1.eq_7 AV.fz1.eq_8 AV.fz1.eq_9 AV.fz1.eq_10 AV.fz1.eq_11 AV.fz1.eq_12 AV.fz1.eq_13 AV.fz1.eq_14 AV.fz1.eq_15 AV.fz1.eq_16
attribute [go_sem] AV.fz.eq_1 AV.fz.eq_2 AV.fz.eq_3 AV.fz.eq_4 AV.fz.eq_5 AV.fz.eq_6 AV.fz.eq_7 AV.fz.eq_8 AV.fz.eq_9 AV.fz.eq_10 AV.fz.eq_11 AV.fz.eq_12 AV.fz.eq_13 AV.fz.eq_14 AV.fz.eq_15 AV.fz.eq_16
attribute [go_sem] freezeH.eq_1 freezeH.eq_2
attribute [go_sem] freezeAll.eq_1 freezeAll.eq_2
attribute [go_sem] zT.eq_1 zT.eq_2
attribute [go_sem] nZ.eq_1 nZ.eq_2
attribute [go_sem] AV.dv1.eq_1 AV.dv1.eq_2 AV.dv1.eq_3 AV.dv1.eq_4 AV.dv1.eq_5 AV.dv1.eq_6 AV.dv1.eq_7 AV.dv1.eq_8 AV.dv1.eq_9 AV.dv1.eq_10 AV.dv1.eq_11 AV.dv1.eq_12 AV.dv1.eq_13 AV.dv1.eq_14 AV.dv1.eq_15 AV.dv1.eq_16
attribute [go_sem] AV.dv.eq_1 AV.dv.eq_2 AV.dv.eq_3 AV.dv.eq_4 AV.dv.eq_5 AV.dv.eq_6 AV.dv.eq_7 AV.dv.eq_8 AV.dv.eq_9 AV.dv.eq_10 AV.dv.eq_11 AV.dv.eq_12 AV.dv.eq_13 AV.dv.eq_14 AV.dv.eq_15 AV.dv.eq_16
attribute [go_sem] AV.atom.eq_1 AV.atom.eq_2 AV.atom.eq_3 AV.atom.eq_4 AV.atom.eq_5 AV.atom.eq_6 AV.atom.eq_7 AV.atom.eq_8 AV.atom.eq_9 AV.atom.eq_10 AV.atom.eq_11 AV.atom.eq_12 AV.atom.eq_13 AV.atom.eq_14 AV.atom.eq_15 AV.atom.eq_16
attribute [go_sem] AV.simple.eq_1 AV.simple.eq_2 AV.simple.eq_3 AV.simple.eq_4 AV.simple.eq_5 AV.simple.eq_6 AV.simple.eq_7 AV.simple.eq_8 AV.simple.eq_9 AV.simple.eq_10 AV.simple.eq_11 AV.simple.eq_12 AV.simple.eq_13 AV.simple.eq_14 AV.simple.eq_15 AV.simple.eq_16
attribute [go_sem] part.eq_1 part.eq_2
attribute [go_sem] Eg.eq_1 Eg.eq_2
attribute [go_sem] AV.like.eq_1 AV.like.eq_2 AV.like.eq_3
attribute [go_sem] KX.eq_1 KX.eq_2 KX.eq_3 KX.eq_4 KX.eq_5 KX.eq_6 KX.eq_7 KX.eq_8 KX.eq_9 KX.eq_10 KX.eq_11 KX.eq_12 KX.eq_13 KX.eq_14 KX.eq_15 KX.eq_16
attribute [go_sem] Dc.eq_1 Dc.eq_2 Dc.eq_3 Dc.eq_4 Dc.eq_5 Dc.eq_6 Dc.eq_7 Dc.eq_8 Dc.eq_9 Dc.eq_10 Dc.eq_11 Dc.eq_12 Dc.eq_13 Dc.eq_14 Dc.eq_15 Dc.eq_16
attribute [go_sem] aL.eq_1 aL.eq_2 aL.eq_3 aL.eq_4
attribute [go_sem] OZ.eq_1 OZ.eq_2
attribute [go_sem] Ox.eq_1 Ox.eq_2 Ox.eq_3 Ox.eq_4 Ox.eq_5 Ox.eq_6 Ox.eq_7 Ox.eq_8 Ox.eq_9 Ox.eq_10 Ox.eq_11 Ox.eq_12 Ox.eq_13 Ox.eq_14 Ox.eq_15 Ox.eq_16 Ox.eq_17
attribute [go_sem] Wy.eq_1 Wy.eq_2 Wy.eq_3 Wy.eq_4 Wy.eq_5 Wy.eq_6 Wy.eq_7 Wy.eq_8
attribute [go_sem] jl.eq_1 jl.eq_2 jl.eq_3
attribute [go_sem] shB.eq_1 shB.eq_2 shB.eq_3
attribute [go_sem] cD.eq_1 cD.eq_2 cD.eq_3 cD.eq_4
attribute [go_sem] eq1.eq_1 eq1.eq_2 eq1.eq_3 eq1.eq_4
attribute [go_sem] jT.eq_1 jT.eq_2 jT.eq_3 jT.eq_4
attribute [go_sem] NQ.eq_1 NQ.eq_2
attribute [go_sem] KN.eq_1 KN.eq_2 KN.eq_3
attribute [go_sem] Sf.eq_1 Sf.eq_2
attribute [go_sem] kz.eq_1 kz.eq_2 kz.eq_3 kz.eq_4 kz.eq_5
attribute [go_sem] RN.eq_1 RN.eq_2
attribute [go_sem] LU.eq_1 LU.eq_2
attribute [go_sem] fL.eq_1 fL.eq_2
attribute [go_sem] ny.eq_1 ny.eq_2
attribute [go_sem] PI.eq_1 PI.eq_2 PI.eq_3
attribute [go_sem] Pc.eq_1 Pc.eq_2 Pc.eq_3 Pc.eq_4
attribute [go_sem] bd.eq_1 bd.eq_2
attribute [go_sem] qW.eq_1 qW.eq_2
attribute [go_sem] tJ.eq_1 tJ.eq_2
attribute [go_sem] Yp.eq_1 Yp.eq_2 Yp.eq_3 Yp.eq_4
attribute [go_sem] tg.eq_1 tg.eq_2
attribute [go_sem] Yk.eq_1 Yk.eq_2 Yk.eq_3 Yk.eq_4 Yk.eq_5
attribute [go_sem] LR.eq_1 LR.eq_2
attribute [go_sem] OT.eq_1 OT.eq_2 OT.eq_3 OT.eq_4
attribute [go_sem] Nc.eq_1 Nc.eq_2 Nc.eq_3
attribute [go_sem] tq.eq_1 tq.eq_2
attribute [go_sem] MW.eq_1 MW.eq_2 MW.eq_3
attribute [go_sem] SJ.eq_1 SJ.eq_2
attribute [go_sem] pE.eq_1 pE.eq_2
attribute [go_sem] bO.eq_1 bO.eq_2
attribute [go_sem] SY.eq_1 SY.eq_2
attribute [go_sem] PX.eq_1 PX.eq_2
attribute [go_sem] setOk.eq_1 setOk.eq_2
attribute [go_sem] mm2.eq_1 mm2.eq_2
attribute [go_sem] Xg.eq_1 Xg.eq_2
attribute [go_sem] kM.eq_1 kM.eq_2
attribute [go_sem] mmA.eq_1 mmA.eq_2
attribute [go_sem] aQ.eq_1 aQ.eq_2
attribute [go_sem] AP.eq_1 AP.eq_2 AP.eq_3 AP.eq_4 AP.eq_5 AP.eq_6 AP.eq_7 AP.eq_8 AP.eq_9 AP.eq_10 AP.eq_11 AP.eq_12 AP.eq_13 AP.eq_14 AP.eq_15 AP.eq_16 AP.eq_17 AP.eq_18 AP.eq_19 AP.eq_20 AP.eq_21 AP.eq_22 AP.eq_23 AP.eq_24 AP.eq_25 AP.eq_26 AP.eq_27 AP.eq_28 AP.eq_29 AP.eq_30 AP.eq_31 AP.eq_32 AP.eq_33 AP.eq_34 AP.eq_35 AP.eq_36
attribute [go_sem] xu.eq_1 xu.eq_2 xu.eq_3
attribute [go_sem] ABO.eq_1 ABO.eq_2
attribute [go_sem] Oq.eq_1 Oq.eq_2 Oq.eq_3 Oq.eq_4
attribute [go_sem] Mi.eq_1 Mi.eq_2 Mi.eq_3 Mi.eq_4
attribute [go_sem] adopt.eq_1 adopt.eq_2 adopt.eq_3 adopt.eq_4 adopt.eq_5 adopt.eq_6 adopt.eq_7 adopt.eq_8 adopt.eq_9 adopt.eq_10 adopt.eq_11 adopt.eq_12 adopt.eq_13 adopt.eq_14 adopt.eq_15 adopt.eq_16
attribute [go_sem] cN.eq_1 cN.eq_2 cN.eq_3
attribute [go_sem] GU.eq_1 GU.eq_2
attribute [go_sem] BH.eq_1 BH.eq_2 BH.eq_3 BH.eq_4
attribute [go_sem] FL.eq_1 FL.eq_2
attribute [go_sem] SM.eq_1 SM.eq_2
attribute [go_sem] VW.eq_1 VW.eq_2
attribute [go_sem] Li.eq_1 Li.eq_2
attribute [go_sem] qv.eq_1 qv.eq_2
attribute [go_sem] Ug.eq_1 Ug.eq_2
attribute [go_sem] MD.eq_1 MD.eq_2 MD.eq_3 MD.eq_4
attribute [go_sem] Ho.eq_1 Ho.eq_2 Ho.eq_3 Ho.eq_4 Ho.eq_5 Ho.eq_6 Ho.eq_7 Ho.eq_8 Ho.eq_9 Ho.eq_10 Ho.eq_11 Ho.eq_12 Ho.eq_13 Ho.eq_14 Ho.eq_15 Ho.eq_16
attribute [go_sem] ag.eq_1 ag.eq_2
attribute [go_sem] GN.eq_1 GN.eq_2 GN.eq_3 GN.eq_4 GN.eq_5
attribute [go_sem] Ey.eq_1 Ey.eq_2 Ey.eq_3
attribute [go_sem] Bh.eq_1 Bh.eq_2
attribute [go_sem] Bi.eq_1 Bi.eq_2 Bi.eq_3 Bi.eq_4
attribute [go_sem] Fp.eq_1 Fp.eq_2 Fp.eq_3 Fp.eq_4
attribute [go_sem] FA.eq_1 FA.eq_2
attribute [go_sem] Ak.eq_1 Ak.eq_2 Ak.eq_3 Ak.eq_4 Ak.eq_5 Ak.eq_6 Ak.eq_7
attribute [go_sem] PT.eq_1 PT.eq_2
attribute [go_sem] bn.eq_1 bn.eq_2
attribute [go_sem] Tv.eq_1 Tv.eq_2
attribute [go_sem] MN.eq_1 MN.eq_2
attribute [go_sem] iD.eq_1 iD.eq_2
attribute [go_sem] DG.eq_1 DG.eq_2 DG.eq_3 DG.eq_4 DG.eq_5
attribute [go_sem] Xt.eq_1 Xt.eq_2
attribute [go_sem] Uo.eq_1 Uo.eq_2 Uo.eq_3
attribute [go_sem] Db.eq_1 Db.eq_2 Db.eq_3 Db.eq_4 Db.eq_5 Db.eq_6
attribute [go_sem] AV.lone.eq_1 AV.lone.eq_2 AV.lone.eq_3 AV.lone.eq_4 AV.lone.eq_5 AV.lone.eq_6 AV.lone.eq_7 AV.lone.eq_8 AV.lone.eq_9 AV.lone.eq_10 AV.lone.eq_11 AV.lone.eq_12 AV.lone.eq_13 AV.lone.eq_14 AV.lone.eq_15 AV.lone.eq_16
attribute [go_sem] BQ.eq_1 BQ.eq_2 BQ.eq_3 BQ.eq_4 BQ.eq_5 BQ.eq_6 BQ.eq_7 BQ.eq_8 BQ.eq_9 BQ.eq_10 BQ.eq_11 BQ.eq_12 BQ.eq_13 BQ.eq_14 BQ.eq_15 BQ.eq_16 BQ.eq_17 BQ.eq_18 BQ.eq_19 BQ.eq_20 BQ.eq_21 BQ.eq_22 BQ.eq_23 BQ.eq_24 BQ.eq_25 BQ.eq_26
attribute [go_sem] Az.eq_1 Az.eq_2 Az.eq_3 Az.eq_4 Az.eq_5 Az.eq_6 Az.eq_7 Az.eq_8 Az.eq_9 Az.eq_10 Az.eq_11 Az.eq_12 Az.eq_13 Az.eq_14 Az.eq_15 Az.eq_16 Az.eq_17 Az.eq_18 Az.eq_19 Az.eq_20 Az.eq_21 Az.eq_22 Az.eq_23 Az.eq_24 Az.eq_25
attribute [go_sem] LQ.eq_1 LQ.eq_2 LQ.eq_3
attribute [go_sem] EM.eq_1 EM.eq_2 EM.eq_3 EM.eq_4 EM.eq_5 EM.eq_6 EM.eq_7 EM.eq_8 EM.eq_9 EM.eq_10 EM.eq_11 EM.eq_12 EM.eq_13 EM.eq_14 EM.eq_15 EM.eq_16
attribute [go_sem] Ks.eq_1 Ks.eq_2 Ks.eq_3 Ks.eq_4 Ks.eq_5 Ks.eq_6 Ks.eq_7 Ks.eq_8 Ks.eq_9
attribute [go_sem] GD.eq_1 GD.eq_2 GD.eq_3
attribute [go_sem] Wt.eq_1 Wt.eq_2
attribute [go_sem] ML.eq_1 ML.eq_2
attribute [go_sem] Gi.eq_1 Gi.eq_2 Gi.eq_3 Gi.eq_4 Gi.eq_5 Gi.eq_6 Gi.eq_7 Gi.eq_8 Gi.eq_9 Gi.eq_10 Gi.eq_11 Gi.eq_12 Gi.eq_13 Gi.eq_14 Gi.eq_15 Gi.eq_16 Gi.eq_17
attribute [go_sem] SB.eq_1 SB.eq_2 SB.eq_3
attribute [go_sem] LP.eq_1 LP.eq_2 LP.eq_3 LP.eq_4 LP.eq_5
attribute [go_sem] Eu.eq_1 Eu.eq_2 Eu.eq_3 Eu.eq_4 Eu.eq_5
attribute [go_sem] Mp.eq_1 Mp.eq_2 Mp.eq_3 Mp.eq_4 Mp.eq_5 Mp.eq_6 Mp.eq_7 Mp.eq_8 Mp.eq_9 Mp.eq_10 Mp.eq_11 Mp.eq_12 Mp.eq_13 Mp.eq_14 Mp.eq_15 Mp.eq_16
attribute [go_sem] NB.eq_1 NB.eq_2
attribute [go_sem] DF.eq_1 DF.eq_2 DF.eq_3 DF.eq_4 DF.eq_5 DF.eq_6 DF.eq_7 DF.eq_8 DF.eq_9 DF.eq_10 DF.eq_11 DF.eq_12 DF.eq_13 DF.eq_14 DF.eq_15 DF.eq_16 DF.eq_17 DF.eq_18 DF.eq_19 DF.eq_20 DF.eq_21 DF.eq_22 DF.eq_23 DF.eq_24 DF.eq_25 DF.eq_26 DF.eq_27 DF.eq_28 DF.eq_29 DF.eq_30 DF.eq_31 DF.eq_32 DF.eq_33 DF.eq_34 DF.eq_35 DF.eq_36
attribute [go_sem] ADR.eq_1 ADR.eq_2
attribute [go_sem] ZJ.eq_1 ZJ.eq_2
attribute [go_sem] od.eq_1 od.eq_2 od.eq_3
attribute [go_sem] SS.eq_1 SS.eq_2 SS.eq_3
attribute [go_sem] Wr.eq_1 Wr.eq_2 Wr.eq_3
attribute [go_sem] EE.eq_1 EE.eq_2 EE.eq_3 EE.eq_4
attribute [go_sem] Nr.eq_1 Nr.eq_2
attribute [go_sem] Xa.eq_1 Xa.eq_2
attribute [go_sem] Gj.eq_1 Gj.eq_2
attribute [go_sem] KU.eq_1 KU.eq_2 KU.eq_3
attribute [go_sem] SI.eq_1 SI.eq_2
attribute [go_sem] ddp.eq_1 ddp.eq_2
attribute [go_sem] tO.eq_1 tO.eq_2
attribute [go_sem] AV.re1.eq_1 AV.re1.eq_2 AV.re1.eq_3 AV.re1.eq_4 AV.re1.eq_5 AV.re1.eq_6 AV.re1.eq_7 AV.re1.eq_8 AV.re1.eq_9 AV.re1.eq_10 AV.re1.eq_11 AV.re1.eq_12 AV.re1.eq_13 AV.re1.eq_14 AV.re1.eq_15 AV.re1.eq_16
attribute [go_sem] AV.re.eq_1 AV.re.eq_2 AV.re.eq_3 AV.re.eq_4 AV.re.eq_5 AV.re.eq_6 AV.re.eq_7 AV.re.eq_8 AV.re.eq_9 AV.re.eq_10 AV.re.eq_11 AV.re.eq_12 AV.re.eq_13 AV.re.eq_14 AV.re.eq_15 AV.re.eq_16
attribute [go_sem] iP.eq_1 iP.eq_2
attribute [go_sem] jx.eq_1 jx.eq_2
attribute [go_sem] rx.eq_1 rx.eq_2
attribute [go_sem] MM.eq_1 MM.eq_2 MM.eq_3
attribute [go_sem] YP.eq_1 YP.eq_2 YP.eq_3
attribute [go_sem] Om.eq_1 Om.eq_2
attribute [go_sem] MV.eq_1 MV.eq_2 MV.eq_3
attribute [go_sem] iW.eq_1 iW.eq_2 iW.eq_3
attribute [go_sem] So.eq_1 So.eq_2
attribute [go_sem] CH.eq_1 CH.eq_2 CH.eq_3 CH.eq_4 CH.eq_5 CH.eq_6 CH.eq_7 CH.eq_8 CH.eq_9 CH.eq_10 CH.eq_11 CH.eq_12 CH.eq_13
attribute [go_sem] Nl.eq_1 Nl.eq_2 Nl.eq_3 Nl.eq_4
attribute [go_sem] BN.eq_1 BN.eq_2 BN.eq_3 BN.eq_4
attribute [go_sem] ZE.eq_1 ZE.eq_2
attribute [go_sem] RW.eq_1 RW.eq_2
attribute [go_sem] kg.eq_1 kg.eq_2
attribute [go_sem] kd.eq_1 kd.eq_2
attribute [go_sem] DI.eq_1 DI.eq_2 DI.eq_3 DI.eq_4 DI.eq_5 DI.eq_6 DI.eq_7 DI.eq_8 DI.eq_9 DI.eq_10 DI.eq_11 DI.eq_12 DI.eq_13 DI.eq_14 DI.eq_15 DI.eq_16
attribute [go_sem] Ym.eq_1 Ym.eq_2 Ym.eq_3
attribute [go_sem] RY.eq_1 RY.eq_2
attribute [go_sem] iy.eq_1 iy.eq_2
attribute [go_sem] cH.eq_1 cH.eq_2
attribute [go_sem] kw.eq_1 kw.eq_2 kw.eq_3
attribute [go_sem] RP.eq_1 RP.eq_2 RP.eq_3
attribute [go_sem] WM.eq_1 WM.eq_2
attribute [go_sem] Kn.eq_1 Kn.eq_2 Kn.eq_3 Kn.eq_4
attribute [go_sem] YJ.eq_1 YJ.eq_2 YJ.eq_3
attribute [go_sem] Ok.eq_1 Ok.eq_2 Ok.eq_3
attribute [go_sem] AOi List.set_cons_succ List.set_cons_zero cb eg c6 e7 List.length_cons List.length_nil List.cons_append List.nil_append List.append_nil List.replicate_succ List.replicate_zero List.any_cons List.any_nil fs List.all_nil Nat.reduceMod Nat.reduceAdd Nat.reduceMul Nat.reduceSub Nat.reduceDiv Nat.reduceEqDiff Nat.reduceLeDiff Nat.reduceBEq Nat.reduceBeqDiff Nat.reduceLT decide_true decide_false reduceCtorEq List.flatMap_nil d' bfT fA Bool.or_self Bool.not_false Bool.not_true Bool.not_not Bool.and_true Bool.true_and Bool.false_and Bool.and_false Bool.or_true Bool.true_or Bool.or_false Bool.false_or List.drop_zero List.drop_succ_cons List.take_succ_cons List.take_zero List.isEmpty_nil List.isEmpty_cons if_true if_false ite_self dtE beq_self_eq_true tnC Int.reduceNeg Int.reduceLE Int.reduceLT Int.reduceToNat Int.reduceEq Int.reduceBEq Option.map_some Option.map_none Option.toList_some Option.toList_none
attribute [go_sem ↓] reduceIte
theorem iu(f:St->FM)(k o r:List Bool)(n:Nat)(s:St):Og f k o r (n+1) s=MM (Og f k o r n) (MV k o r (f s)):=rfl
def xt(f:α->AV)(xs:List α)(e:α){i:Nat}(h:i<xs.length):(xs.map f).getD i .any=f (xs.getD i e):=by
 simp[gdE,cf,geE h]
attribute [go_sem] eu ek List.length_set e8 List.length_drop List.length_take
end Go.Proofs.YtegmpdmpgmpiaaaGreatDoor
namespace Go.Proofs.YtegmpdmpgmpiaaaGreatDoor
open Go Go.RowKit
def PM(k n:Nat):Ng:=⟨.push,k,c7,.mov (.v n)⟩
def VS(n k i:Nat):Ng:=⟨.var n,k,c7,.mov (.s i)⟩
def PO(k:Nat)(a:KW):Ng:=⟨.push,k,c7,a⟩
def VO(n k:Nat)(a:KW):Ng:=⟨.var n,k,c7,a⟩
def SO(n k:Nat)(a:KW):Ng:=⟨.slot n,k,c7,a⟩
def I6(n:Int):Src:=.c (.int .i64 n)
attribute [go_sem] PM VS PO VO SO I6
variable{α:Type}
def ck(c:Bool)(k:Option α):Option α:=if c=bN then k else c7
def AY{α:Type}{c:Bool}{k:Option α}{r:α}(h:ck c k=b9 r):c=bN/\k=b9 r:=by
 unfold ck at h;split at h
 .exact⟨by assumption,h⟩
 .cases h
theorem AB{α:Type}(k:Option α):ck bN k=k:=id rfl
def AO{α β:Type}{x:Option α}{f:α->Option β}{r:β}(h:x.bind f=b9 r):∃y,x=b9 y/\f y=b9 r:=by
 cases x with
 |none=>cases h
 |some y=>exact⟨y,rfl,h⟩
variable{c:Bool}
def Au{β:Type}{a b:Option β}{r:β}(h:(if c=bN then a else b)=b9 r):(c=bN/\a=b9 r)\/(c=bI/\b=b9 r):=by
 cases c
 .exact .inr ⟨rfl,h⟩
 .exact .inl ⟨rfl,h⟩
def AX{a b:α}(h:b9 a=b9 b):a=b:=dx h
def Ev{g:Bool}(h:(!g||c)=bN):(g=bN/\c=bN)\/g=bI:=by cases g<;>cases c<;>simp_all
variable{a b:Bool}
def AJG(h:(a&&b)=bI):a=bI\/(a=bN/\b=bI):=by cases a<;>cases b<;>simp_all
def AEg(h:(a||b)=bN):a=bN\/(a=bI/\b=bN):=by cases a<;>cases b<;>simp_all
def AKi(h:(a||b)=bI):a=bI/\b=bI:=by cases a<;>cases b<;>simp_all
def TU(h:(!a)=bN):a=bI:=by cases a<;>simp_all
def Ov(h:(!a)=bI):a=bN:=by cases a<;>simp_all
def n1{b:Bool}:((!b)=bN)=(b=bI):=by cases b<;>simp
def n2{b:Bool}:((!b)=bI)=(b=bN):=by cases b<;>simp
def n3{a b:Bool}:((a&&b)=bN)=(a=bN/\b=bN):=by cases a<;>cases b<;>simp
def n4{a b:Bool}:((a||b)=bI)=(a=bI/\b=bI):=by cases a<;>cases b<;>simp
def tM(sz:Nat)(f:α->AV)(xs:List α):AV:=.sl sz (bS f xs)
attribute [go_sem] tM ej
def Km{σ ρ:Type}(step:σ->Option (σ⊕ρ)):Nat->σ->Option ρ
 |0,_=>c7
 | n+1,s=>match step s with
  |none=>c7
  |some (.inl s')=>Km step n s'
  |some (.inr r)=>b9 r
open Classical in
def AE{σ ρ:Type}(step:σ->Option (σ⊕ρ))(s:σ):Option ρ :=if h:∃n,(Km step n s).isSome=bN then Km step (ea h) s else c7
def UW{σ ρ:Type}{step:σ->Option (σ⊕ρ)}{r:ρ}:∀{n m:Nat} {s:σ},n<=m->Km step n s=b9 r->Km step m s=b9 r
 |0,_,_,_,h=>by cases h
 |n+1,0,_,hm,_=>by omega
 | n+1,m+1,s,hm,h=>by
  simp only[Km]at h ⊢;cases hs:step s with
  |none=>rw[hs]at h;cases h
  | some o=>
   rw[hs]at h;cases o with
   |inl s'=>exact UW n' h
   |inr r'=>exact h
def Mw{σ ρ:Type}{step:σ->Option (σ⊕ρ)}{s:σ}{r:ρ}{n:Nat}(h:Km step n s=b9 r):AE step s=b9 r:=by
 have C:∃n,(Km step n s).isSome=true:=⟨n,by rw[h];rfl⟩;unfold AE;rw[dif_pos C];obtain⟨r',j⟩:=zX (Classical.choose_spec C);rw[j];rcases gb n (ea C)with hle|hle
 .rw[UW hle h]at j;exact j.symm
 .rw[UW hle j]at h;exact h
def Jf{σ ρ:Type}{step:σ->Option (σ⊕ρ)}{s:σ}{r:ρ}(h:AE step s=b9 r):∃n,Km step n s=b9 r:=by
 unfold AE at h;split at h
 .exact⟨_,h⟩
 .cases h
def gB{σ ρ:Type}(step:σ->Option (σ⊕ρ))(s:σ):AE step s=match step s with
  |none=>c7
  |some (.inl s')=>AE step s'
  |some (.inr r)=>b9 r:=by
 apply Option.ext;intro r;constructor
 .intro h;obtain⟨n,j⟩:=Jf h;cases n with
  |zero=>cases j
  | succ n=>
   simp only[Km]at j;cases hs:step s with
   |none=>rw[hs]at j;cases j
   | some o=>
    rw[hs]at j;cases o with
    |inl s'=>exact Mw j
    |inr r'=>exact j
 .intro h;cases hs:step s with
  |none=>rw[hs]at h;cases h
  | some o=>
   rw[hs]at h;cases o with
   | inl s'=>
    obtain⟨n,j⟩:=Jf h;exact Mw (n:=n+1) (by simp only[Km,hs];exact j)
   |inr r'=>exact Mw (n:=1) (by simp only[Km,hs];exact h)
def Aq{σ ρ:Type}{step:σ->Option (σ⊕ρ)}{s s':σ}(h:step s=b9 (.inl s')):AE step s=AE step s':=by rw[gB,h]
def Ai{σ ρ:Type}{step:σ->Option (σ⊕ρ)}{s:σ}{r:ρ}(h:step s=b9 (.inr r)):AE step s=b9 r:=by rw[gB,h]
def Mv{σ ρ:Type}{step:σ->Option (σ⊕ρ)}(f:Nat->σ)(m:Nat){r:ρ}(hs:∀i,i<m->step (f i)=b9 (.inl (f (i+1))))(hd:step (f m)=b9 (.inr r)):AE step (f 0)=b9 r:=by
 have:∀k,k<=m->AE step (f (m-k))=b9 r:=by
  intro k
  induction k with
  |zero=>intro _;exact Ai hd
  | succ k j=>
   intro C;rw[Aq (hs (m-(k+1)) n'),show m-(k+1)+1=m-k by omega];exact j n'
 simpa using this m (cl _)
def OA{σ ρ:Type}{step:σ->Option (σ⊕ρ)}{E:σ->St}{R:ρ->FM}{T:Le}{b:IR}{C ot rt:List Bool}(hR:∀y,(R y).1 ≠ .norm)
  (hs:∀s o,step s=b9 o->∃j,∀L,j<=L->MV C ot rt (CH T L b (E s))=Sum.elim (fun s'=>((.norm,E s'):FM)) R o)
  {s:σ} {y:ρ} (h:AE step s=b9 y):∃j,∀L,j<=L->Og (CH T L b) C ot rt L (E s)=R y:=by
 obtain⟨n,hn⟩:=Jf h
 have key:∀n s,Km step n s=b9 y->∃j,∀L m,j<=L->n<=m->Og (CH T L b) C ot rt m (E s)=R y:=by
  intro n
  induction n with
  |zero=>intro s h;cases h
  | succ n ih=>
   intro s h;simp only[Km]at h;cases I:step s with
   |none=>rw[I]at h;cases h
   | some o=>
    rw[I]at h;obtain⟨L1,U⟩:=hs s o I;cases o with
    | inl s'=>
     obtain⟨L2,h2⟩:=ih s' h;refine⟨L1+L2,fun L m J hm=>?_⟩;cases m with
     |zero=>omega
     | succ m=>
      rw[iu,U L n'];exact h2 L m n' n'
    | inr r=>
     cases h
     refine⟨L1,fun L m J hm=>?_⟩;cases m with
     |zero=>omega
     | succ m=>
      rw[iu,U L J];have:=hR y;simp only[Sum.elim_inr];revert this;generalize R y=q;obtain⟨e,s'⟩:=q;cases e
      .intro c;exact absurd rfl c
      .intro _;rfl
      .intro _;rfl
 obtain⟨j,h0⟩:=key n s hn;exact⟨j+n,fun L J=>h0 L L n' n'⟩
def jQ{α:Type}{f:α->AV}(h:∀x,ui (f x)=bN)(xs:List α):(bS f xs).all ui=bN:=by
 induction xs<;>simp_all
variable{l:List (Nat×Ao)}{fn:Bg}{modes:List Md}{r:AV}
def AOd{args:List AV}{outs:List AV}(h:∃j,∀L,j<=L->PZ (MI l) L fn modes args=⟨bN,r,outs⟩):(Vi l fn modes).F args=⟨bN,r,outs⟩:=by
 obtain⟨L,h⟩:=h;exact AOc L (h L (cl _))
def tW{args:List AV}{outs:List AV}(j:PP r=bN)(h:∃C,∀L,C<=L->PZ (MI l) L fn modes args=⟨bN,r,outs⟩):(CV l fn modes).F args=⟨bN,r,outs⟩:=by
 obtain⟨L,h⟩:=h;exact AOe L (h L (cl _)) j
open Classical in
def mm(n:Int):UInt8:=UInt8.ofNat n.toNat
variable{n:Int}
def wrap_i64(j:-9223372036854775808<=n)(h2:n<=9223372036854775807):bs.wrap n=n:=by
 unfold dT dU;simp[dc];omega
def Z1{n:Int}(h: -9223372036854775808<=n/\n<=9223372036854775807):bs.wrap n=n:=wrap_i64 h.1 h.2
def qA(e:Int):0<=bX.wrap e:=by
 unfold dT dU;simp[dc];omega
def qB(e:Int):bX.wrap e<256:=by
 unfold dT dU;simp[dc];omega
def ADy(j:0<=n)(h2:n<256):bX.wrap n=n:=by
 unfold dT dU;simp[dc];omega
def AGs(c:UInt8):(c.toNat:Int)<256:=by have:=c.toNat_lt;omega
def wH(e:Int):(((UInt8.ofNat (bX.wrap e).toNat).toNat:Nat):Int)=bX.wrap e:=by
 have j:=qA e;have h2:=qB e;rw[UInt8.toNat_ofNat'];omega
def AFy(c:UInt8):bs.wrap (c.toNat:Int)=(c.toNat:Int):=wrap_i64 n' (by have:=AGs c;omega)
def rI(xs:L8):(xs.map Js).all LU=bN:=by induction xs<;>simp_all [Js,LU]
def sK(xs:L8):(xs.map Js).map RN=xs:=by
 induction xs with
 |nil=>rfl
 |cons a r j=>simp only[c6,j,Js,RN,tnC,UInt8.ofNat_toNat]
variable{i:Nat}
def CR[Inhabited α](f:α->AV)(xs:List α)(h:i<xs.length):(xs.map f).getD i .any=f (xs.getD i a'):=xt f xs a' h
def Kk{m:Nat}(h:AS n m=bN):n.toNat<m:=by
 simp only[AS,baT,dtE]at h;omega
def ALB(x:AV)(q:Bool):aL bI x (.bool q) = .bool q:=by cases x<;>rfl
def ALA(y:AV)(p:Bool):aL bN (.bool p) y = .bool p:=by cases y<;>rfl
def xq{xs:List α}{x d:α}(h:i<xs.length):(xs.set i x).getD i d=x:=by
 rw[gdE,List.getElem?_set_self h];rfl
attribute [go_sem] xq List.set_set tnC UInt8.ofNat_toNat mm wH AFy rI sK et List.map_set fm fp List.all_append Sum.elim_inl Sum.elim_inr ALB ALA St.mk.injEq Prod.mk.injEq List.map_replicate UInt8.reduceToNat Int.cast_ofNat_Int Bool.or_not_self Bool.not_or_self
def Nu(P:bR)(t:Nat):TypeDesc:=(P.underlying t).getD .invalid
def fg:e5->Nat
 |.slice e=>e
 |.pointer e=>e
 |_=>0
def AMq:e5->Bool
 |.struct _=>bN
 |.array _ _=>bN
 |_=>bI
def bK(P:bR)(t f:Nat):Field:=match Nu P t with
 |.struct j=>j.getD f a'
 |_=>a'
def AJD(P:bR):Value->e5->AV
 |.int k n,_=>.int k n
 |.bool b,_=>.bool b
 |.string s,_=>.str s.data.toList
 |.slice _ _ _,.slice e=>.sl (P.cellsOf e) []
 |.slice _ _ _,_=>.nilsl
 |.tuple _,_=>.cv c8
 |.pointer _,_=>.cv (.pointer c7)
 |.nilFunc,_=>.cv .nilFunc
 |.nilIface,_=>.cv .nilIface
 |_,_=>.any
def AJE(P:bR):Nat->Nat->List Nat
 |0,t=>[t]
 | k+1,t=>match Nu P t with
  |.struct j=>j.toList.flatMap fun f=>AJE P k f.type
  |_=>[t]
def AJC(P:bR)(v:Value)(t:Nat):AV:=match v with
 |.agg cs=>.agg (List.zipWith (fun c u=>AJD P c (Nu P u)) cs.toList (AJE P 4 t))
 |v=>AJD P v (Nu P t)
def mj(P:bR)(t:Nat):AV:=match(P.info? t).bind (·.zero)with
 |some v=>AJC P v t
 |none=>.any
def VY(x:Nat):Nat->List Nat->Option Nat
 |_,[]=>c7
 |i,y::r=>if y=x then b9 i else VY x (i+1) r
def Jv(P:bR)(vm e:List Nat)(t:Nat):Operand->Src
 | .tmp x=>match VY x 0 vm with
  |some i=>.v i
  |none=>.s ((VY x 0 e).getD 0)
 |.const v=>.c (AJC P v t)
 |.func f=>.c (.fn (.func f) [] [])
 |.global _=>.c .any
def AHG:e5->Nat
 |.bool=>0
 |.int _=>1
 |.string=>2
 |_=>9
def pg(b i:Nat):Bool:=b/i%2==1
def Sn(P:bR)(vm e:List Nat):List Operand->List Nat->List Src
 |[],_=>[]
 |x::r,[]=>Jv P vm e 99999 x::Sn P vm e r []
 |x::r,t::j=>Jv P vm e t x::Sn P vm e r j
def AOa(P:bR)(vm e:List Nat)(b t:Nat)(x:Operand):KW :=match x,Nu P t with
 |.const (.slice c7 0 0),.slice el=>if pg b 1 then .mov (Jv P vm e t x)else .newnil (P.cellsOf el)
 |_,_=>if pg b 2 then .movz (Jv P vm e t x)else .mov (Jv P vm e t x)
def binO(P:bR)(op:BinOp)(d:e5)(x y:Src):KW:=match d with
 |.struct j=>.eqA (op == .neq) (j.toList.map fun f=>AHG (Nu P f.type)) x y
 |.bool=>.bin bN op x y
 |_=>.bin bI op x y
def cnvO(a d:e5)(x:Src):KW:=match a,d with
 |.int _,.int k=>.conv k x
 |.string,.slice _=>.s2b x
 |.slice _,.string=>.b2s x
 |_,_=>.mov x
def APX(P:bR)(vm e:List Nat)(b:Nat)(c:Call):KW :=match c.callee with
 |.value (.func f)=>if pg b 8 then .callw f (Sn P vm e c.args.toList c.argTypes.toList)else if pg b 16 then .callp f (Sn P vm e c.args.toList c.argTypes.toList)else .call f (Sn P vm e c.args.toList c.argTypes.toList)
 |.value g=>.callv (Jv P vm e 99999 g) (Sn P vm e c.args.toList c.argTypes.toList)
 |.builtin .len=>.len (AHG (Nu P (c.argTypes.getD 0 0))==2) ((Sn P vm e c.args.toList c.argTypes.toList).getD 0 (.v 0))
 |.builtin .append=>.app (P.cellsOf (fg (Nu P (c.argTypes.getD 0 0)))) (P.bytesOf (fg (Nu P (c.argTypes.getD 0 0)))) (mj P (fg (Nu P (c.argTypes.getD 0 0)))) ((Sn P vm e c.args.toList c.argTypes.toList).getD 0 (.v 0)) ((Sn P vm e c.args.toList c.argTypes.toList).getD 1 (.v 0))
 |.builtin .min=>.minmax bI (Sn P vm e c.args.toList c.argTypes.toList)
 |_=>.minmax bN (Sn P vm e c.args.toList c.argTypes.toList)
def slO(n b:Nat)(x:Src)(lo hi:Option Src):KW:=if pg b 4 then .trunc n x (hi.getD (.v 0))else .slice n x lo hi
def APd(P:bR)(vm e:List Nat)(b t0:Nat):Op->KW
 |.move x=>AOa P vm e b t0 x
 |.assign x=>AOa P vm e b t0 x
 |.pick c x y=>.pick (Jv P vm e t0 c) (Jv P vm e t0 x) (Jv P vm e t0 y)
 |.alloc t=>.alloc (mj P t)
 |.box t x=>.box (Jv P vm e t x)
 |.build t ps=>.build (mj P t).cells (ps.toList.map fun p=>((bK P t p.1).offset,P.cellsOf (bK P t p.1).type,Jv P vm e (bK P t p.1).type p.2))
 |.buildSlice t n ps=>.mkSl (P.cellsOf (fg (Nu P t))) (mj P (fg (Nu P t))) n (ps.toList.map fun p=>(p.1,Jv P vm e (fg (Nu P t)) p.2))
 |.load t p=>.load (AMq (Nu P t)) (P.cellsOf t) (Jv P vm e 99999 p)
 |.store t p x=>.store (P.cellsOf t) (Jv P vm e 99999 p) (Jv P vm e t x)
 |.nilCheck x=>.nilck (Jv P vm e 99999 x)
 |.binOp op t x y _=>binO P op (Nu P t) (Jv P vm e 99999 x) (Jv P vm e 99999 y)
 |.unOp op _ x=>.un op (Jv P vm e 99999 x)
 |.convert a d x=>cnvO (Nu P a) (Nu P d) (Jv P vm e a x)
 |.makeFunc f fi ca=>.mkFn f (fi.toList.map (Jv P vm e 99999)) (ca.toList.map (Jv P vm e 99999))
 |.makeSlice t l c=>.make (P.cellsOf (fg (Nu P t))) (P.bytesOf (fg (Nu P t))) (mj P (fg (Nu P t))) (Jv P vm e 99999 l) (Jv P vm e 99999 c)
 |.slice t x lo hi _=>slO (match Nu P t with |.slice e=>P.cellsOf e|_=>0) b (Jv P vm e t x) (lo.map (Jv P vm e 99999)) (hi.map (Jv P vm e 99999))
 |.fieldAddr t x f=>.fldAddr (bK P t f).offset (Jv P vm e 99999 x)
 |.field t x f=>.fld (AMq (Nu P (bK P t f).type)) (bK P t f).offset (P.cellsOf (bK P t f).type) (Jv P vm e t x)
 |.indexAddr t x i=>.ixAddr (P.cellsOf (fg (Nu P t))) (Jv P vm e t x) (Jv P vm e 99999 i)
 |.index _ x i=>.ixStr (Jv P vm e 99999 x) (Jv P vm e 99999 i)
 |.extract x i=>.ext (Jv P vm e 99999 x) i
 |.call c=>APX P vm e b c
 |_=>.mov (.c .any)
def mkO(k:Nat):List (Nat×Nat)->Nat
 |[]=>0
 |p::r=>if p.1=k then p.2 else mkO k r
def wrO(b:Nat)(j:List Nat)(a:KW):KW:=if pg b 64 then .flat a else if pg b 128 then .safe j a else a
def AFe(P:bR)(vm e:List Nat)(I:Bool)(b:Nat)(C:List Nat)(j:List Oper)(o:Oper):Ng :=⟨match o.dst with
  |none=>.no
  | some d=>match VY d 0 vm with
   |some i=>.var i
   |none=>if I then .slot ((VY d 0 e).getD 0)else .push,o.dst.getD 0, match o.guard with
  |none=>c7
  |some g=>b9 (Jv P vm e 99999 (.tmp ((j.getD g.1 a').dst.getD 0)),g.2),wrO b C (if pg b 32 then .pur (APd P vm e b o.type o.op)else APd P vm e b o.type o.op)⟩
def AGz(x:Kc)(d:Option Nat)(e:List Nat):List Nat:=match x with
 |.push=>d.getD 0::e
 |_=>e
def ABC(P:bR)(vm:List Nat)(mk:List (Nat×Nat))(j:List Oper):Nat->List Nat->List Oper->List Ng×List Nat
 |_,e,[]=>([],e)
 |i,e,o::r=>((AFe P vm e bI (mkO i mk) [] j o)::(ABC P vm mk j (i+1) (AGz (AFe P vm e bI (mkO i mk) [] j o).dst o.dst e) r).1,(ABC P vm mk j (i+1) (AGz (AFe P vm e bI (mkO i mk) [] j o).dst o.dst e) r).2)
def YE(vm:List Nat):List Nat->List Oper->List Nat
 |acc,[]=>acc.reverse
 | acc,o::r=>match o.dst with
  |none=>YE vm acc r
  |some d=>if(VY d 0 vm).isSome||(VY d 0 acc).isSome then YE vm acc r else YE vm (d::acc) r
def ALO(P:bR)(vm e:List Nat)(mk:List (Nat×Nat))(C:List Nat)(j:List Oper):Nat->List Oper->List Ng
 |_,[]=>[]
 |i,o::r=>AFe P vm e bN (mkO i mk) C j o::ALO P vm e mk C j (i+1) r
def vp:Nat->Nat->List Bool
 |0,_=>[]
 |n+1,k=>(k%2==1)::vp n (k/2)
abbrev Rg:=List (Nat×List Nat×List (List Nat))
def rgO(k:Nat):Rg->List Nat×List (List Nat)
 |[]=>([],[])
 |p::r=>if p.1=k then p.2 else rgO k r
def Nn(P:bR)(vm:List Nat)(mk:List (Nat×Nat))(rg:Rg):Code->List (Nat×Nat×Nat)->IR×List (Nat×Nat×Nat)
 |.region id ops bN,ms=>(.anyo (YE vm [] ops.toList).length (ALO P vm (YE vm [] ops.toList) mk (rgO id rg).1 ops.toList (100*id) ops.toList) (rgO id rg).2 .skip,ms)
 |.region id ops bI,ms=>(.region bI (ABC P vm mk ops.toList (100*id) [] ops.toList).1,ms)
 |.seq (.region id ops bN) (.cond c a b),ms=>(.anyo (YE vm [] ops.toList).length (ALO P vm (YE vm [] ops.toList) mk (rgO id rg).1 ops.toList (100*id) ops.toList) (rgO id rg).2 (.cond (Jv P vm (YE vm [] ops.toList) 99999 c) (Nn P vm mk rg a ms).1 (Nn P vm mk rg b (Nn P vm mk rg a ms).2).1),(Nn P vm mk rg b (Nn P vm mk rg a ms).2).2)
 |.seq (.region id ops bI) (.cond c a b),ms=>(.test bI (ABC P vm mk ops.toList (100*id) [] ops.toList).1 (Jv P vm (ABC P vm mk ops.toList (100*id) [] ops.toList).2 99999 c) (Nn P vm mk rg a ms).1 (Nn P vm mk rg b (Nn P vm mk rg a ms).2).1,(Nn P vm mk rg b (Nn P vm mk rg a ms).2).2)
 |.seq a b,ms=>(.seq (Nn P vm mk rg a ms).1 (Nn P vm mk rg b (Nn P vm mk rg a ms).2).1,(Nn P vm mk rg b (Nn P vm mk rg a ms).2).2)
 |.cond c a b,ms=>(.cond (Jv P vm [] 99999 c) (Nn P vm mk rg a ms).1 (Nn P vm mk rg b (Nn P vm mk rg a ms).2).1,(Nn P vm mk rg b (Nn P vm mk rg a ms).2).2)
 |.block id a,ms=>(.block id (Nn P vm mk rg a ms).1,(Nn P vm mk rg a ms).2)
 |.loop a,m::ms=>(.loop (vp vm.length m.1) (vp vm.length m.2.1) (vp vm.length m.2.2) (Nn P vm mk rg a ms).1,(Nn P vm mk rg a ms).2)
 |.exit id,ms=>(.exit id,ms)
 |.ret,ms=>(.ret,ms)
 |_,ms=>(.skip,ms)
def resO(P:bR)(vm:List Nat):e3->sR
 |.tmp t=>.t ((VY t 0 vm).getD 0)
 |.cell a t=>.cell (AMq (Nu P t)) (P.cellsOf t) ((VY a 0 vm).getD 0)
noncomputable def Af(P:bR)(f:Func)(vm:List Nat)(mk:List (Nat×Nat))(rg:Rg)(ms:List (Nat×Nat×Nat)):Bg :=⟨f.params.size+f.nfree,vm.length,(Nn P vm mk rg (f.body.getD .skip) ms).1,f.results.toList.map (resO P vm)⟩
def JQ:IR->List (List Bool×List Bool×List Bool×IR)->List (List Bool×List Bool×List Bool×IR)
 |.skip,r=>r
 |.region _ _,r=>r
 |.test _ _ _ a b,r=>JQ a (JQ b r)
 |.anyo _ _ _ a,r=>JQ a r
 |.seq a b,r=>JQ a (JQ b r)
 |.cond _ a b,r=>JQ a (JQ b r)
 |.block _ a,r=>JQ a r
 |.loop k o q a,r=>(k,o,q,a)::JQ a r
 |.mask _ a,r=>JQ a r
 |.exit _,r=>r
 |.ret,r=>r
def My(fn:Bg)(n:Nat):List Bool×List Bool×List Bool×IR:=(JQ fn.body []).getD n ([],[],[],.skip)
def Hf(t:List (Nat×Ao))(L:Nat)(fn:Bg)(n:Nat)(s:St):FM :=Og (CH (MI t) L (My fn n).2.2.2) (My fn n).1 (My fn n).2.1 (My fn n).2.2.1 L s
attribute [go_sem] JQ My Hf cb eg
def N1:(∀b:Bool,((!b)=bN)=(b=bI))/\(∀b:Bool,((!b)=bI)=(b=bN))/\(∀a b:Bool,((a&&b)=bN)=(a=bN/\b=bN))/\(∀a b:Bool,((a||b)=bI)=(a=bI/\b=bI)):=⟨@n1,@n2,@n3,@n4⟩
def xr[Inhabited α](f:α->AV)(xs:List α)(h:i<xs.length):(bS f xs).getD i .any=f (xs.getD i a'):=CR f xs h
def gd[Inhabited α](o:Option α):α:=o.getD a'
theorem Aj[Inhabited α](x:α):gd (b9 x)=x:=id rfl
def isX{o:Option α}(h:o.isSome=bN):∃a,o=b9 a:=zX h
def Kw{o:Option α}{y:α}(h:o=b9 y):o.isSome=bN:=by rw[h];rfl
def cr[Inhabited α]{o:Option α}{Q:α->Prop}(H:∀y,o=b9 y->Q y)(h:o.isSome=bN):Q (o.getD a'):=by
  cases o with
  |none=>cases h
  |some y=>exact H y rfl
variable{P:bR}
def lp{Q P:Nat->Prop}(h:∃I,∀L,I<=L->Q L)(k:∃j,∀L,j<=L->Q L->P L):∃j,∀L,j<=L->P L:=by
  obtain⟨a,C⟩:=h;obtain⟨b,hb⟩:=k;exact⟨a+b,fun L J=>hb L n' (C L n')⟩
theorem xP(l:List (Nat×Ao))(fn:Bg)(m:List Md):(Vi l fn m).modes=m:=rfl
theorem AAc(l:List (Nat×Ao))(fn:Bg)(m:List Md):(Vi l fn m).flat=false:=rfl
theorem iU(l:List (Nat×Ao))(fn:Bg)(m:List Md):(CV l fn m).modes=m:=rfl
theorem AAd(l:List (Nat×Ao))(fn:Bg)(m:List Md):(CV l fn m).flat=true:=rfl
theorem xM(l:List (Nat×Ao))(fn:Bg)(m:List Md):(mkZ l fn m).modes=m:=rfl
theorem AAb(l:List (Nat×Ao))(fn:Bg)(m:List Md):(mkZ l fn m).flat=false:=rfl
theorem xV(f n:Nat)(c:Ao)(l:List (Nat×Ao)):MI ((n,c)::l) f=bif f==n then b9 c else MI l f:=rfl
attribute [go_sem] xr Option.isSome_some ej gd xP AAc iU AAd xM AAb xV
class Sd (P:bR) (f:Nat) (c:Ao):Prop where
  s:Cd P f c
class SdL (P:bR) (l:List (Nat×Ao)):Prop where
  s:∀p,p∈l->Cd P p.1 p.2
instance SdL0 :SdL P []:=⟨tK⟩
instance SdL1{f:Nat}{c:Ao}[h:Sd P f c][hl:SdL P l]:SdL P ((f,c)::l):=⟨NV h.s hl.s⟩
section
variable {P:bR}{f:Nat}{fu:Func}{l:List (Nat×Ao)}{m:List Md}{vm:List Nat}{mk:List (Nat×Nat)}{rg:Rg}{ms:List (Nat×Nat×Nat)}[hl:SdL P l]
theorem Ow(h:WL P f (Af P fu vm mk rg ms) vm=bN:=by kernel_rfl):Sd P f (Vi l (Af P fu vm mk rg ms) m):=⟨xO m hl.s h⟩
theorem Am(h:WL P f (Af P fu vm mk rg ms) vm=bN:=by kernel_rfl)(hm:AAU m=bN:=by rfl):Sd P f (CV l (Af P fu vm mk rg ms) m):=⟨xQ m hm hl.s h⟩
end
def an{A B:Prop}(a:A)(b:B):A/\B:=⟨a,b⟩
variable{P:Prop}
def go{Q:Prop}(l:Q)(t:Q->P:=by
  intro l
  repeat' first
  |(with_reducible have q:=Au h;clear h;rcases q with⟨z,h⟩|⟨z,h⟩<;>try simp only[go_sem,N1, *]at z)
  | (with_reducible have q:=AY h;clear h;obtain⟨z,h⟩:=q
     first
     |(have j:=Kk z;(try simp only[go_sem]at j);(try simp only[go_sem,N1, *]at z))
     |(have q:=Ev z;clear z;rcases q with⟨g,z⟩|g<;>(try simp only[go_sem,N1, *]at g)<;>first|(have j:=Kk z;(try simp only[go_sem]at j);try simp only[go_sem,N1, *]at z)|skip)
     |(try simp only[go_sem,N1, *]at z))
  |(with_reducible have q:=AO h;clear h;obtain⟨y,z,h⟩:=q;first|with_reducible refine lp (l z) ?_|with_reducible refine lp (l.1 z) ?_|with_reducible refine lp (l.2 z) ?_|with_reducible refine lp (l.2.1 z) ?_|with_reducible refine lp (l.2.2 z) ?_|with_reducible refine lp (l.2.2.1 z) ?_|with_reducible refine lp (l.2.2.2.1 z) ?_|with_reducible refine lp (l.2.2.2.2.1 z) ?_|with_reducible refine lp (l.2.2.2.2.2 z) ?_|(have f:=l z;simp only[go_sem]at f)|(have f:=l.1 z;simp only[go_sem]at f)|(have f:=l.2 z;simp only[go_sem]at f)|(have f:=l.2.1 z;simp only[go_sem]at f)|(have f:=l.2.2 z;simp only[go_sem]at f)|skip)
  |(rcases y with y|y|y<;>dsimp only at h)
  |(rcases y with y|y<;>dsimp only at h)
  all_goals
    obtain rfl:=AX h;refine⟨0,fun L C=>?_⟩
    intros
    try(rename_i e;simp only[go_sem, *]at e)
    first
    |(simp only[go_sem, *];done)
    |(simp_all only[go_sem,N1];done)
    |(cases y<;>simp_all only[go_sem,N1,Bool.true_and,Bool.false_and,Bool.not_true,Bool.not_false,Bool.true_or,Bool.false_or];done)):P:=t l
variable{α:Type}
abbrev Q7[Inhabited α](o:Option α)(C:Ao)(a:List AV)(f:α->AV)(m:List AV):Prop:=o.isSome=true->C.F a=⟨true,f (gd o),m⟩
abbrev L7{σ ρ:Type}(st:σ->Option (σ⊕ρ))(tb:List (Nat×Ao))(ir:Bg)(n:Nat)(e:σ->St)(r:ρ->FM):Prop:=∀{s:σ}{y:ρ},AE st s=some y->∃I,∀L,I<=L->Hf tb L ir n (e s)=r y
def Q8[Inhabited α]{o:Option α}{C:Ao}{a:List AV}{f:α->AV}{m:List AV}(q:Q7 o C a f m){y:α}(h:o=b9 y):C.F a=⟨true,f y,m⟩:=by
 have q:=q (Kw h);simp only[h,Aj]at q;exact q
def CK{Q:Prop}(fn:Bg)(l:Q)(t:fn=fn->Q->P:=by
  intro c l
  conv at c=>rhs;cbv
  first|(obtain⟨y,e⟩:=isX h;clear h)|(intro h;obtain⟨y,e⟩:=isX h;clear h)
  simp only[e,Aj];first
  |with_reducible refine AOd ?_
  |with_reducible refine AHE ?_
  |with_reducible refine tW (by first|(simp only[PP,SX,Kb,List.all_cons,List.all_nil,Bool.and_self];done)|(simp only[PP,SX,Kb,List.all_cons,List.all_nil,Bool.and_self,Bool.true_and,Bool.and_true];exact jQ (fun _=>rfl) _)) ?_
  have h:=e;clear e;dsimp only[go_sem]at h;exact go @l):P:=t rfl l
def Jd{Q:Prop}(fn:Bg)(l:Q)(t:fn=fn->Q->P:=by
  intro c l
  try intro h
  conv at c=>rhs;cbv
  simp only[c,Hf,My,JQ,List.getD_cons_zero,List.getD_cons_succ];refine OA ?_ ?_ h
  · intro y;first
    |(intro c;cases c)
    |(rcases y with y|y<;>(intro c;cases c))
    |(rcases y with y|y|y<;>(intro c;cases c))
  clear h;intro s o h
  repeat' first
  |obtain⟨a,s⟩:_×_:=s
  |obtain⟨⟩:Unit:=s
  dsimp only[go_sem]at h;exact go @l):P:=t rfl l
variable{w:c'}
def Mf{F:Nat->Prop}{g0:Gh}{args:List AV}{modes:List Md}{w':c'}{v:Value}{r:AV}{outs:List AV}(hs:AD C' w w')
  (R:RV (AR F g0 []) w' g0 [] id v r) (J:∀i,¬ Kd r i) (hio:∀j:Nat,modes[j]? ≠ b9 Md.io):fH F g0 args modes w v w' r outs g0 [] id where
 same:=hs.mono fun _ _ c=>c.elim
 home:=fun k h C=>by simp[AK]at C
 inj:=fun k k' I=>by obtain⟨⟨h,C⟩,_⟩:=I;simp[AK]at C
 nF:=fun k I=>by obtain⟨⟨h,C⟩,_⟩:=I;simp[AK]at C
 hio:=fun k I=>by obtain⟨⟨h,C⟩,_⟩:=I;simp[AK]at C
 val:=R
 κinj:=fun i j hi=>(J i hi).elim
 κio:=fun i j hi=>(J i hi).elim
 out:=fun j U=>(hio j U).elim
def Hw{F:Nat->Prop}{g:Gh}{w:c'}{args:List AV}{vargs:Array Value}(h:FR F g w vargs (ct args.length) [] (Mh args)){i:Nat}(hi:i<args.length):
  SR (AR F g (BN 0 args)) w g (BN 0 args) (vargs.getD i c8) (YO i (args.getD i .any)):=by
 have:=h.vs i (by simpa using hi);have C:(ct args.length).getD i 0=i:=by rw[gdE,cn hi];rfl
 rw[C]at this;have j:(Mh args).vs.getD i .any=YO (0+i) (args.getD i .any):=Ln args 0 i hi;rw[j,db]at this;exact this
variable{vargs:Array Value}
def OG(h:vargs.size=2):vargs = #[vargs.getD 0 c8,vargs.getD 1 c8]:=by
 obtain⟨l⟩:=vargs
 match l,h with
 |[a,b],_=>rfl
def APM(a b:L8):Option Int:=some (eL a b)
def ABL:List AV->Rs
 |[.str a,.str b]=>⟨bN,.int .i64 (eL a b),[.any,.any]⟩
 |_=>cc
def Sk:Ao:=⟨[.bor,.bor],bN,ABL⟩
def AGj{a b:L8}{j:Int}(h:APM a b=b9 j):Sk.F [.str a,.str b]=⟨bN,.int .i64 j,[.any,.any]⟩:=by
 cases h;rfl
theorem AMu:Sk.modes=[.bor,.bor]:=rfl
theorem AGn:Sk.flat=true:=rfl
attribute [go_sem] AMu AGn
def jJ{args:List AV}(h:(ABL args).ok=bN):∃a b,args=[.str a,.str b]:=by
 unfold ABL at h;split at h
 .exact⟨_,_,rfl⟩
 .cases h
variable{P:bR}{f:cA}
def rQ{fn:Func}(hf:P.funcs[f]? = b9 fn)(C:(fn.name == "runtime.NumGoroutine")=bI)(hb:fn.body.isNone=bN)(hn:Extern.findNext fn=c7)
  (he:Extern.find fn=b9 Extern.BytealgCompare.compare):Cd P f Sk:=by
 refine⟨fun _=>rfl,fun F g0 w args vargs ad R J I=>⟨fun _=>?_,?_⟩⟩
 .obtain⟨a,b,rfl⟩:=jJ I;rfl
 .obtain⟨a,b,rfl⟩:=jJ I;have h0:=Hw J (i:=0) p';have h1:=Hw J (i:=1) p';rw[OG R];generalize vargs.getD 0 c8=x at h0;generalize vargs.getD 1 c8=y at h1;cases h0;cases h1
  unfold DJ;rw[run_callFunc_extern hf C hb hn he,Lib.run_compareString];simp only[Result.andThen];refine⟨_,g0,[],id,rfl,Mf (AD.refl _ _) ?_ (fun i hi=>?_) (fun j U=>?_)⟩
  .exact .int
  .exact absurd hi.2 b'
  .match j with
   |0=>cases U
   |1=>cases U
   |j+2=>simp[Sk]at U
def APL:List AV->Rs
 |[.str a,.int .u8 c]=>⟨bN,.int .i64 (Lib.indexByte a c.toNat.toUInt8),[.any,.any]⟩
 |_=>cc
def ABz:Ao:=⟨[.bor,.bor],bN,APL⟩
theorem AMs:ABz.modes=[.bor,.bor]:=rfl
theorem AGk:ABz.flat=true:=rfl
attribute [go_sem] AMs AGk
def AFg(n b:Int):Option L8:=if(bo (-9223372036854775808<=n)&&bo (n<=9223372036854775807)&&bo (b=10))=bN then b9 (e6 n)else c7
def bD:List AV->Rs
 |[.int .i64 n,.int .i64 b]=>⟨bo (-9223372036854775808<=n)&&bo (n<=9223372036854775807)&&bo (b=10),.str (e6 n),[.any,.any]⟩
 |_=>cc
def RL:Ao:=⟨[.bor,.bor],bN,bD⟩
def AGi{n b:Int}{j:L8}(h:AFg n b=b9 j):RL.F [.int .i64 n,.int .i64 b]=⟨bN,.str j,[.any,.any]⟩:=by
 unfold AFg at h;split at h
 .rename_i C;cases h;show(⟨_,_,_⟩:Rs)=_;rw[C]
 .cases h
theorem AMt:RL.modes=[.bor,.bor]:=rfl
theorem AGl:RL.flat=true:=rfl
attribute [go_sem] AMt AGl
def jH{args:List AV}(h:(bD args).ok=bN):∃n,-9223372036854775808<=n/\n<=9223372036854775807/\args=[.int .i64 n,.int .i64 10]/\bD args=⟨bN,.str (e6 n),[.any,.any]⟩:=by
 unfold bD at h ⊢;split at h
 .rename_i n b;simp only[baT,dtE]at h;obtain⟨⟨j,h2⟩,rfl⟩:=h;exact⟨n,j,h2,rfl,by simp[j,h2]⟩
 .cases h
def rO(hc:∀(n:Int) (w:c'),-9223372036854775808<=n->n<=9223372036854775807->GT C' w ->
  DJ P f #[.int .i64 n,.int .i64 10] w fun e w'=>e = .returned (.string ⟨(e6 n).toArray⟩)/\AD C' w w'):Cd P f RL:=by
 refine⟨fun _=>rfl,fun F g0 w args vargs aj R C I=>⟨fun _=>?_,?_⟩⟩
 .obtain⟨n,_,_,rfl,e⟩:=jH I;show PP (bD _).r=bN;rw[e];rfl
 .obtain⟨n,aa,U,rfl,e⟩:=jH I;have h0:=Hw C (i:=0) p';have h1:=Hw C (i:=1) p';rw[OG R];generalize vargs.getD 0 c8=x at h0;generalize vargs.getD 1 c8=y at h1;cases h0;cases h1
  refine(hc n w aa U (C.tab.mono (AD.refl _ _) fun _ _ c=>c.elim)).mono fun e' w' ⟨he,hs⟩=>?_
  refine⟨_,g0,[],id,he,Mf hs ?_ (fun i hi=>?_) (fun j hj=>?_)⟩
  .show RV _ _ _ _ _ _ (bD _).r;rw[e];exact .str
  .have J:Kd (bD _).r i:=hi;rw[e]at J;exact absurd J.2 b'
  .match j with
   |0=>cases hj
   |1=>cases hj
   |j+2=>simp[RL]at hj
def Tt:List AV->Option (List L8)
 |[]=>b9 []
 |.str l::r=>(Tt r).map (l::·)
 |_::_=>c7
def Zh:∀ss:List L8,Tt (bS AV.str ss)=b9 ss
 |[]=>rfl
 |s::r=>by simp[Tt,Zh r]
def hU:∀{els:List AV} {ss:List L8},Tt els=b9 ss->els=bS AV.str ss
 |[],ss,h=>by simp[Tt]at h;subst h;rfl
 | a::r,ss,h=>by
  cases a<;>simp[Tt]at h
  obtain⟨ss',j,rfl⟩:=h;rw[hU j];rfl
def SK:List AV->Option (List Int)
 |[]=>b9 []
 |.int .i64 l::r=>(SK r).map (l::·)
 |_::_=>c7
def UX:∀ss:List Int,SK (bS (AV.int .i64) ss)=b9 ss
 |[]=>rfl
 |s::r=>by simp[SK,UX r]
def jD:∀{els:List AV} {ss:List Int},SK els=b9 ss->els=bS (AV.int .i64) ss
 |[],ss,h=>by simp[SK]at h;subst h;rfl
 | a::r,ss,h=>by
  cases a with
  | int k n=>
   cases k<;>simp[SK]at h
   obtain⟨ss',j,rfl⟩:=h;rw[jD j];rfl
  |_=>simp[SK]at h
def oS(j n:Nat)(i:Int)(m:Nat):Bool:=(bo (0<=i)&&bo (i<=(n:Int)))&&(bo (m=1)&&bo ((n+1)*j<=140737488355328))
def kZ(j:Nat)(l:List α)(i:Int)(v:List α):Option (List α):=if oS j l.length i v.length=bN then b9 (l.take i.toNat++(v++l.drop i.toNat))else c7
def jG(K j:Nat):List AV->Rs
 |[.fresh sz els,.int .i64 i,.fresh sz2 xs]=>⟨(sz==K&&sz2==K)&&oS j els.length i xs.length,.fresh K (els.take i.toNat++(xs++els.drop i.toNat)),[.any,.any,.any]⟩
 |_=>cc
def JG(K j:Nat):Ao:=⟨[.mov,.bor,.mov],bI,jG K j⟩
variable{j:Nat}
def pw(K:Nat)(f:α->AV){l:List α}{i:Int}{v C:List α}(h:kZ j l i v=b9 C):(JG K j).F [.fresh K (bS f l),.int .i64 i,.fresh K (bS f v)]=⟨bN,.fresh K (bS f C),[.any,.any,.any]⟩:=by
 unfold kZ at h;split at h
 .rename_i I;cases h;show jG K j [.fresh K (bS f l),.int .i64 i,.fresh K (bS f v)]=_;unfold jG;simp only[eu,I,beq_self_eq_true,fA,et,fm,fp]
 .cases h
def jF{K:Nat}{args:List AV}(h:(jG K j args).ok=bN):∃els i x,(0<=i/\i<=(els.length:Int))/\(els.length+1)*j<=140737488355328/\args=[.fresh K els,.int .i64 i,.fresh K [x]] /\
  jG K j args=⟨bN,.fresh K (els.take i.toNat++x::els.drop i.toNat),[.any,.any,.any]⟩:=by
 unfold jG at h ⊢;split at h
 .rename_i sz els i sz2 xs;have h2:=h;simp only[oS,baT,beq_iff_eq,dtE]at h2;obtain⟨⟨rfl,rfl⟩,⟨R,J⟩,I,C⟩:=h2
  match xs,I with
  |[x],_=>exact⟨els,i,x,⟨R,J⟩,C,rfl,congrArg (fun b=>(⟨b,.fresh sz2 (els.take i.toNat++x::els.drop i.toNat),[.any,.any,.any]⟩:Rs)) h⟩
 .cases h
def fY(s p:L8):Option (L8×L8×Bool):=if s.length<4294967281 then b9 (e4 s p)else c7
def ABK:List AV->Rs
 |[.str s,.str p]=>⟨bo (s.length<4294967281),.tup [.str (e4 s p).1,.str (e4 s p).2.1,.bool (e4 s p).2.2],[.any,.any]⟩
 |_=>cc
def RM:Ao:=⟨[.bor,.bor],bN,ABK⟩
def Wd{a b:L8}{j:L8×L8×Bool}(h:fY a b=b9 j):RM.F [.str a,.str b]=⟨bN,.tup [.str j.1,.str j.2.1,.bool j.2.2],[.any,.any]⟩:=by
 unfold fY at h;split at h
 .rename_i C;cases h;show(⟨_,_,_⟩:Rs)=_;rw[decide_eq_true C]
 .cases h
theorem ADi:RM.modes=[.bor,.bor]:=rfl
theorem AGm:RM.flat=true:=rfl
attribute [go_sem] ADi AGm
def jI{args:List AV}(h:(ABK args).ok=bN):∃s p,s.length<4294967281/\args=[.str s,.str p]:=by
 unfold ABK at h;split at h
 .rename_i s p;exact⟨s,p,of_decide_eq_true h,rfl⟩
 .cases h
variable{c:Ao}
def AGU(hm:c.modes=[.bor,.bor])(j:Nat):c.modes[j]? ≠ b9 Md.io:=by
 rw[hm]
 match j with
 |0=>intro h;cases h
 |1=>intro h;cases h
 |j+2=>simp
def yc(hm:c.modes=[.bor])(j:Nat):c.modes[j]? ≠ b9 Md.io:=by
 rw[hm]
 match j with
 |0=>intro h;cases h
 |j+1=>simp
def rP(hc:∀(s p:L8) (w:c'),s.length<4294967281->GT C' w ->
  DJ P f #[.string ⟨s.toArray⟩,.string ⟨p.toArray⟩] w fun e w'=>e = .returned (.tuple #[.string ⟨(e4 s p).1.toArray⟩,.string ⟨(e4 s p).2.1.toArray⟩,.bool (e4 s p).2.2])/\AD C' w w'):Cd P f RM:=by
 refine⟨fun _=>rfl,fun F g0 w args vargs ad J C I=>⟨fun _=>?_,?_⟩⟩
 .obtain⟨s,p,_,rfl⟩:=jI I;rfl
 .obtain⟨s,p,hl,rfl⟩:=jI I;have h0:=Hw C (i:=0) p';have h1:=Hw C (i:=1) p';rw[OG J];generalize vargs.getD 0 c8=x at h0;generalize vargs.getD 1 c8=y at h1;cases h0;cases h1
  refine(hc s p w hl (C.tab.mono (AD.refl _ _) fun _ _ c=>c.elim)).mono fun e' w' ⟨he,hs⟩=>?_
  refine⟨_,g0,[],id,he,Mf hs ⟨_,rfl,rfl,fun j R=>?_⟩ (fun i hi=>?_) (AGU rfl)⟩
  .match j,R with
   |0,_=>exact .str
   |1,_=>exact .str
   |2,_=>exact .bool
  .obtain⟨j,_,R,U⟩:=hi
   match j,R with
   |0,_=>exact absurd U b'
   |1,_=>exact absurd U b'
   |2,_=>exact absurd U b'
def Xf(s p:L8):Option (List L8):=if(bo (s.length<4294967281)&&bo (1<=p.length))=bN then b9 (cd s p)else c7
def kW:List AV->Rs
 |[.str s,.str p]=>⟨bo (s.length<4294967281)&&bo (1<=p.length),.fresh 1 (bS AV.str (cd s p)),[.any,.any]⟩
 |_=>cc
def Nd:Ao:=⟨[.bor,.bor],bN,kW⟩
def Xw{a b:L8}{j:List L8}(h:Xf a b=b9 j):Nd.F [.str a,.str b]=⟨bN,.fresh 1 (bS AV.str j),[.any,.any]⟩:=by
 unfold Xf at h;split at h
 .rename_i C;cases h;show(⟨_,_,_⟩:Rs)=_;rw[C]
 .cases h
theorem pn:Nd.modes=[.bor,.bor]:=rfl
theorem yo:Nd.flat=true:=rfl
attribute [go_sem] pn yo
def YR{args:List AV}(h:(kW args).ok=bN):∃s p,s.length<4294967281/\1<=p.length/\args=[.str s,.str p]:=by
 unfold kW at h;split at h
 .rename_i s p;have h:=ef.1 h;exact⟨s,p,of_decide_eq_true h.1,of_decide_eq_true h.2,rfl⟩
 .cases h
def xi{S:Nat->Prop}{T:TypeId}(ss:List L8):Hy S (w.alloc (.cells (ss.map fun l=>Value.string ⟨l.toArray⟩).toArray T)) w.heap.size ss.length 1 (bS AV.str ss):=by
 have C:∀i (hi:i<ss.length),(bS AV.str ss).getD i .any = .str ss[i]:=fun i hi=>by
  rw[gdE,cf,geE hi];rfl
 refine⟨cl _,p',fun i hi=>?_,fun J=>⟨(ss.map fun l=>Value.string ⟨l.toArray⟩).toArray,T,(0,0),by show(w.heap.push _)[w.heap.size]? = _;simp,.inl rfl,p',fun i j hi R=>?_⟩⟩
 .rw[C i (by simpa using hi)];exact⟨rfl,rfl⟩
 .obtain rfl:j=0:=n'
  have I:i<ss.length:=by simpa using hi
  rw[C i I,Nat.mul_one,Nat.add_zero,agD];rw[List.getElem?_toArray,cf,geE I];exact .str
def kV{P:bR}{f:cA}{T:TypeId}(hc:∀(s p:L8) (w:c'),s.length<4294967281->1<=p.length->GT C' w ->
  DJ P f #[.string ⟨s.toArray⟩,.string ⟨p.toArray⟩] w fun e w'=>e = .returned (.slice (b9 ⟨w.heap.size,0,c7⟩) (cd s p).length (cd s p).length)/\w'=w.alloc (.cells ((cd s p).map fun l=>Value.string ⟨l.toArray⟩).toArray T)):Cd P f Nd:=by
 refine⟨fun _=>rfl,fun F g0 w args vargs aj U C J=>⟨fun _=>?_,?_⟩⟩
 .obtain⟨s,p,_,_,rfl⟩:=YR J;show PP (.fresh 1 (bS AV.str (cd s p)))=bN;simp only[PP,SX,jQ (f:=AV.str) (fun _=>rfl)]
 .obtain⟨s,p,hl,hp,rfl⟩:=YR J;have h0:=Hw C (i:=0) p';have h1:=Hw C (i:=1) p';rw[OG U];generalize vargs.getD 0 c8=x at h0;generalize vargs.getD 1 c8=y at h1;cases h0;cases h1
  refine(hc s p w hl hp (C.tab.mono (AD.refl _ _) fun _ _ c=>c.elim)).mono fun e' w' ⟨he,hs⟩=>?_
  subst hs
  have only:∀k h,AK k [(0,(⟨1,bS AV.str (cd s p)⟩:Hm))]=b9 h->k=0/\h=⟨1,bS AV.str (cd s p)⟩:=by
   intro k h I;simp only[AK,AM,beq_iff_eq]at I;split at I
   .rename_i e;cases I;exact⟨e.symm,rfl⟩
   .cases I
  refine⟨_,⟨fun _=>w.heap.size,fun _=>(cd s p).length⟩,[(0,⟨1,bS AV.str (cd s p)⟩)],fun _=>0,he,⟨(AD.alloc C' w _).mono fun _ _ c=>c.elim,fun k h I=>?_,fun k k' a b _=>?_,fun k a hF=>?_,fun k a=>.inl (cl _),⟨rfl,?_⟩,fun i j hi R _=>?_,fun i j _ R=>absurd R (AGU rfl j),fun j R=>absurd R (AGU rfl j)⟩⟩
  .obtain⟨rfl,rfl⟩:=only k h I;exact xi _
  .obtain⟨⟨h,I⟩,_⟩:=a;obtain⟨⟨h',aa⟩,_⟩:=b;rw[(only k h I).1,(only k' h' aa).1]
  .exact absurd (C.fb _ hF) (Nat.lt_irrefl _)
  .left;simp
  .rw[hi.1,R.1]
def kN(l:List L8)(p:L8):Bool:=bo (l.length<=1048576)&&bo ((fy l p).length<=140737488355328)
def YT(l:List L8)(p:L8):Option L8:=if kN l p=bN then b9 (fy l p)else c7
def SN:List AV->Rs
 | [.sl sz els,.str p]=>match Tt els with
  |some l=>⟨kN l p,.str (fy l p),[.any,.any]⟩
  |none=>cc
 |_=>cc
def Lj:Ao:=⟨[.bor,.bor],bN,SN⟩
def di{a:List L8}{b j:L8}(h:YT a b=b9 j):Lj.F [.sl 1 (bS AV.str a),.str b]=⟨bN,.str j,[.any,.any]⟩:=by
 unfold YT at h;split at h
 .rename_i C;cases h;show SN [AV.sl 1 (bS AV.str a),AV.str b]=_;unfold SN;simp only[Zh,C]
 .cases h
theorem AGg:Lj.modes=[.bor,.bor]:=rfl
theorem ADs:Lj.flat=true:=rfl
attribute [go_sem] AGg ADs
def CQ(s:L8):Int×Bool :=if(fx s [45]).length<1\/18<(fx s [45]).length then(0,bI)else match Lib.parseIntB 64 s with
 |.ok v=>if e6 v=s then(v,bN)else(0,bI)
 |_=>(0,bI)
def Ma(s:L8):Option (Int×Bool):=if s.length<=281474976710656 then b9 (CQ s)else c7
def kY:List AV->Rs
 |[.str s]=>⟨bo (s.length<=281474976710656),.tup [.int .i64 (CQ s).1,.bool (CQ s).2],[.any]⟩
 |_=>cc
def Me:Ao:=⟨[.bor],bN,kY⟩
def jp{a:L8}{j:Int×Bool}(h:Ma a=b9 j):Me.F [.str a]=⟨bN,.tup [.int .i64 j.1,.bool j.2],[.any]⟩:=by
 unfold Ma at h;split at h
 .rename_i C;cases h;show(⟨_,_,_⟩:Rs)=_;rw[decide_eq_true C]
 .cases h
theorem po:Me.modes=[.bor]:=rfl
theorem yp:Me.flat=true:=rfl
attribute [go_sem] po yp
def YS{args:List AV}(h:(kY args).ok=bN):∃s:L8,s.length<=281474976710656/\args=[.str s]:=by
 unfold kY at h;split at h
 .rename_i s;exact⟨s,of_decide_eq_true h,rfl⟩
 .cases h
def Pm(h:vargs.size=1):vargs = #[vargs.getD 0 c8]:=by
 obtain⟨l⟩:=vargs
 match l,h with
 |[a],_=>rfl
def kX(hc:∀(s:L8) (w:c'),s.length<=281474976710656->GT C' w ->
  DJ P f #[.string ⟨s.toArray⟩] w fun e w'=>e = .returned (.tuple #[.int .i64 (CQ s).1,.bool (CQ s).2])/\AD C' w w'):Cd P f Me:=by
 refine⟨fun _=>rfl,fun F g0 w args vargs ab J I C=>⟨fun _=>?_,?_⟩⟩
 .obtain⟨s,_,rfl⟩:=YS C;rfl
 .obtain⟨s,hl,rfl⟩:=YS C;have h0:=Hw I (i:=0) p';rw[Pm J];generalize vargs.getD 0 c8=x at h0;cases h0
  refine(hc s w hl (I.tab.mono (AD.refl _ _) fun _ _ c=>c.elim)).mono fun e' w' ⟨he,hs⟩=>?_
  refine⟨_,g0,[],id,he,Mf hs ⟨_,rfl,rfl,fun j R=>?_⟩ (fun i hi=>?_) (yc rfl)⟩
  .match j,R with
   |0,_=>exact .int
   |1,_=>exact .bool
  .obtain⟨j,_,R,U⟩:=hi
   match j,R with
   |0,_=>exact absurd U b'
   |1,_=>exact absurd U b'
def nk(l:List Int):Bool:=bo (0<l.length)&&bo (l.length<=9223372036854775807)
def ud(l:List Int):Option Int:=if nk l=bN then b9 (ew l)else c7
def jE(l:List Int):Option Int:=if nk l=bN then b9 (ev l)else c7
def ec(f:List Int->Int):List AV->Rs
 | [.sl sz els]=>match SK els with
  |some l=>⟨nk l,.int .i64 (f l),[.any]⟩
  |none=>cc
 |_=>cc
def RK:Ao:=⟨[.bor],bN,ec ew⟩
def PU:Ao:=⟨[.bor],bN,ec ev⟩
def ADo{a:List Int}{j:Int}(h:ud a=b9 j):RK.F [.sl 1 (bS (AV.int .i64) a)]=⟨bN,.int .i64 j,[.any]⟩:=by
 unfold ud at h;split at h
 .rename_i C;cases h;show ec ew [AV.sl 1 (bS (AV.int .i64) a)]=_;unfold ec;simp only[UX,C]
 .cases h
def ADn{a:List Int}{j:Int}(h:jE a=b9 j):PU.F [.sl 1 (bS (AV.int .i64) a)]=⟨bN,.int .i64 j,[.any]⟩:=by
 unfold jE at h;split at h
 .rename_i C;cases h;show ec ev [AV.sl 1 (bS (AV.int .i64) a)]=_;unfold ec;simp only[UX,C]
 .cases h
theorem AGf:RK.modes=[.bor]:=rfl
theorem ADr:RK.flat=true:=rfl
theorem AGe:PU.modes=[.bor]:=rfl
theorem ADq:PU.flat=true:=rfl
attribute [go_sem] AGf ADr AGe ADq
def tU{f:List Int->Int}{args:List AV}(h:(ec f args).ok=bN):∃sz l,0<l.length/\l.length<=9223372036854775807/\args=[.sl sz (bS (AV.int .i64) l)]/\(ec f args).r = .int .i64 (f l):=by
 unfold ec at h;split at h
 .rename_i sz els;split at h
  .rename_i l hl;have j:nk l=true:=h;have h:=ef.1 j;refine⟨sz,l,of_decide_eq_true h.1,of_decide_eq_true h.2,by rw[jD hl],?_⟩;simp only[ec,hl]
  .cases h
 .cases h
@[go_sem]abbrev hF(x:Int):Int:=i64.wrap ((u64.wrap (bs.wrap x)).fdiv (2^(min 1 64)))
structure Star where
 Name:L8
 Ascend:Int
 Decl:Int
 Bright:Int
 Faint:Int
 deriving Inhabited,DecidableEq
def AN(x:Star):AV:=.agg ([.str x.Name,.int .i64 x.Ascend,.int .i64 x.Decl,.int .i64 x.Bright,.int .i64 x.Faint])
structure AA where
 Time:Int
 Star:L8
 Observer:L8
 Mag:Int
 Fainter:Bool
 deriving Inhabited,DecidableEq
def AC(x:AA):AV:=.agg ([.int .i64 x.Time,.str x.Star,.str x.Observer,.int .i64 x.Mag,.bool x.Fainter])
structure Ad where
 Stars:List Star
 Estimates:List AA
 Log:L8
 deriving Inhabited,DecidableEq
def BC(x:Ad):AV:=.agg ([.sl 5 (bS AN x.Stars),.sl 5 (bS AC x.Estimates),.str x.Log])
structure Cm where
 words_:List L8
 numbers_:List Int
 fainter_:Bool
 wrong_:Bool
 deriving Inhabited,DecidableEq
def JH(x:Cm):AV:=.agg ([.sl 1 (bS AV.str x.words_),.sl 1 (bS (AV.int .i64) x.numbers_),.bool x.fainter_,.bool x.wrong_])
structure AU where
 Day:Int
 What:L8
 Value:Int
 deriving Inhabited,DecidableEq
def Br(x:AU):AV:=.agg ([.int .i64 x.Day,.str x.What,.int .i64 x.Value])
structure AJ where
 Time:Int
 Mag:Int
 deriving Inhabited,DecidableEq
def AQ(x:AJ):AV:=.agg ([.int .i64 x.Time,.int .i64 x.Mag])
structure CI where
 From:Int
 To:Int
 Step:Int
 deriving Inhabited,DecidableEq
def QT(x:CI):AV:=.agg ([.int .i64 x.From,.int .i64 x.To,.int .i64 x.Step])
structure AG where
 Epoch:Int
 Period:Int
 deriving Inhabited,DecidableEq
def Bf(x:AG):AV:=.agg ([.int .i64 x.Epoch,.int .i64 x.Period])
structure Hx where
 s_:L8
 at_:Int
 stamp_:Int
 list_:List AU
 deriving Inhabited,DecidableEq
def FB(x:Hx):AV:=.agg ([.str x.s_,.int .i64 x.at_,.int .i64 x.stamp_,.sl 3 (bS Br x.list_)])
@[go_sem]theorem ABY(x:Star):Star.mk x.Name x.Ascend x.Decl x.Bright x.Faint=x:=rfl
@[go_sem]theorem kl(x:AA):AA.mk x.Time x.Star x.Observer x.Mag x.Fainter=x:=rfl
@[go_sem]theorem ABa(x:Ad):Ad.mk x.Stars x.Estimates x.Log=x:=rfl
@[go_sem]theorem pH(x:Cm):Cm.mk x.words_ x.numbers_ x.fainter_ x.wrong_=x:=rfl
@[go_sem]theorem yG(x:AU):AU.mk x.Day x.What x.Value=x:=rfl
@[go_sem]theorem yF(x:AJ):AJ.mk x.Time x.Mag=x:=rfl
@[go_sem]theorem rX(x:CI):CI.mk x.From x.To x.Step=x:=rfl
@[go_sem]theorem fc(x:AG):AG.mk x.Epoch x.Period=x:=rfl
@[go_sem]theorem ABZ(x:Hx):Hx.mk x.s_ x.at_ x.stamp_ x.list_=x:=rfl
attribute [go_sem] AN AC BC JH Br AQ QT Bf FB
def MY :Option Ad :=some (Ad.mk ([]:List Star) ([]:List AA) [])
def Bt (j:List Star):Option (List Star) :=ck (Dg (([]:List Star).length+j.length) 48)<|some (([]:List Star)++j)
def BZ (j:List AA):Option (List AA) :=ck (Dg (([]:List AA).length+j.length) 56)<|some (([]:List AA)++j)
def Dt (j:Int):Option L8 :=if((bo (j<0))||(bo ((([([111,107]:L8),([105,110,118,97,108,105,100]:L8),([114,97,110,103,101]:L8),([110,111,116,45,102,111,117,110,100]:L8),([101,120,105,115,116,115]:L8),([102,117,108,108]:L8),([115,116,97,116,101]:L8),([115,121,110,116,97,120]:L8),([102,111,114,109,97,116]:L8),([99,108,97,115,104]:L8),([99,108,111,117,100,121]:L8)]:List L8).length:Int)<=j)))then b9 ([]:L8)else ck (AS j (([([111,107]:L8),([105,110,118,97,108,105,100]:L8),([114,97,110,103,101]:L8),([110,111,116,45,102,111,117,110,100]:L8),([101,120,105,115,116,115]:L8),([102,117,108,108]:L8),([115,116,97,116,101]:L8),([115,121,110,116,97,120]:L8),([102,111,114,109,97,116]:L8),([99,108,97,115,104]:L8),([99,108,111,117,100,121]:L8)]:List L8).length))<|some (([([111,107]:L8),([105,110,118,97,108,105,100]:L8),([114,97,110,103,101]:L8),([110,111,116,45,102,111,117,110,100]:L8),([101,120,105,115,116,115]:L8),([102,117,108,108]:L8),([115,116,97,116,101]:L8),([115,121,110,116,97,120]:L8),([102,111,114,109,97,116]:L8),([99,108,97,115,104]:L8),([99,108,111,117,100,121]:L8)]:List L8).getD j.toNat a')
def Bm (j:L8):Option L8 :=if(j==([115,116,97,114]:L8))then b9 ([119,110,110,109,109]:L8)else if(j==([101,115,116]:L8))then b9 ([110,119,119,102]:L8)else if(j==([99,117,114,118,101]:L8))then b9 ([119]:L8)else if(j==([97,109,112]:L8))then b9 ([119]:L8)else if(j==([108,97,115,116]:L8))then b9 ([119]:L8)else if(j==([98,101,115,116]:L8))then b9 ([119,110,110,110]:L8)else if(j==([102,111,108,100]:L8))then b9 ([119,110]:L8)else if(j==([112,97,105,114,115]:L8))then b9 ([110,110]:L8)else if(j==([101,110,116,101,114]:L8))then b9 ([110,119,110]:L8)else b9 ([]:L8)
def Ht :Option (List L8) :=some ([([97,109,112]:L8),([98,101,115,116]:L8),([99,117,114,118,101]:L8),([101,110,116,101,114]:L8),([101,115,116]:L8),([102,111,108,100]:L8),([108,97,115,116]:L8),([108,111,103]:L8),([112,97,105,114,115]:L8),([115,116,97,114]:L8)]:List L8)
def CP(s_:List L8)(v:L8)(j:Int):Int->Option (Int⊕(Unit⊕Int))
 |t8=>if(bo (t8<j))then ck (AS t8 s_.length)<|if(v==(s_.getD t8.toNat a'))then b9 (.inr (.inr t8))else b9 (.inl (bs.wrap (t8+1)))else b9 (.inr (.inl ()))
def Dj(s_:List L8)(v:L8):Option Int :=(AE (CP s_ v (s_.length:Int)) 0).bind fun C=>match C with
 |.inl I=>b9 (-1)
 |.inr j=>b9 j
def Bp(s_:List L8)(v:L8):Option Bool :=(Dj s_ v).bind fun j=>b9 (bo (0<=j))
def DC(s_ j:L8):Option Bool :=ck (!(bo ((j.length:Int)<=(s_.length:Int)))||Ja 0 (j.length:Int) s_.length)<|some ((bo ((j.length:Int)<=(s_.length:Int)))&&((cut s_ 0 (j.length:Int))==j))
def CF(s_ j:L8):Option (L8×Bool) :=(DC s_ j).bind fun C=>if(!C)then b9 (s_,bI)else ck (Ja (j.length:Int) (s_.length:Int) s_.length)<|some ((cut s_ (j.length:Int) (s_.length:Int)),bN)
def Cg(s_ j:L8):Option (L8×Bool) :=(CF s_ j).bind fun C=>b9 (C.1,C.2)
def EB(n low j:Int):Option Bool :=some ((bo (low<=n))&&(bo (n<=j)))
def Ba (m:Int):Option Bool :=(EB m (-2000) 20000).bind fun j=>b9 j
def EU (n:Int):Option Int :=if(bo (n<0))then b9 (bs.wrap (0-n))else b9 n
def Id(i base:Int):Option L8 :=(AFg i base).bind fun j=>b9 j
def Av (n:Int):Option L8 :=(Id n 10).bind fun j=>b9 j
def JS (j:Int):L8->Option (L8⊕L8)
 |s_=>if(bo ((s_.length:Int)<j))then ck (CM ([48]:L8).length s_.length)<|some (.inl (([48]:L8)++s_))else b9 (.inr s_)
def Jj(n j:Int):Option L8 :=(Av n).bind fun I=>(AE (JS j) I).bind fun C=>b9 C
def Df (m:Int):Option L8 :=(Ba m).bind fun aa=>if(!aa)then b9 ([]:L8)else if(bo (m<0))then(EU m).bind fun U=>ck (nz 1000)<|(Av (bs.wrap (U.tdiv 1000))).bind fun C=>ck (CM ([45]:L8).length C.length)<|ck (CM (([45]:L8)++C).length ([46]:L8).length)<|(Jj (U.tmod 1000) 3).bind fun R=>ck (CM ((([45]:L8)++C)++([46]:L8)).length R.length)<|some (((([45]:L8)++C)++([46]:L8))++R)else(EU m).bind fun J=>ck (nz 1000)<|(Av (bs.wrap (J.tdiv 1000))).bind fun j=>ck (CM ([]:L8).length j.length)<|ck (CM (([]:L8)++j).length ([46]:L8).length)<|(Jj (J.tmod 1000) 3).bind fun I=>ck (CM ((([]:L8)++j)++([46]:L8)).length I.length)<|some (((([]:L8)++j)++([46]:L8))++I)
def CJ(s_:L8)(C:Bool)(j:L8)(I:List Int)(J:Int):(Int×Int)->Option ((Int×Int)⊕Int)
 |(m,t46)=>if(bo (t46<J))then ck (AS t46 I.length)<|ck (AS t46 j.length)<|some (.inl ((bs.wrap (m+(bs.wrap ((I.getD t46.toNat a')*(bs.wrap (bX.wrap (((j.getD t46.toNat 0).toNat:Int)-48))))))),(bs.wrap (t46+1))))else b9 (.inr m)
def CN (s_:L8):Option (Int×Bool) :=(Cg s_ ([45]:L8)).bind fun J=>(fY J.1 ([46]:L8)).bind fun I=>(Ma I.1).bind fun j=>ck (!(!(!j.2))||(EB j.1 0 20).isSome)<|if(((!j.2)||(!((EB j.1 0 20).getD a')))||(!((I.2.1.length:Int)==3)))then b9 (0,bI)else(AE (CJ s_ J.2 I.2.1 ([100,10,1]:List Int) (([100,10,1]:List Int).length:Int)) ((bs.wrap (j.1*1000)),0)).bind fun C=>if J.2 then(Df (bs.wrap (0-C))).bind fun U=>if(!(U==s_))then b9 (0,bI)else b9 ((bs.wrap (0-C)),bN)else(Df C).bind fun R=>if(!(R==s_))then b9 (0,bI)else b9 (C,bN)
def AZ (kinds:L8):Nat->List L8->List Int->Bool->Bool->Option (List Int×Bool×Bool)
 |_,[],j,f,b=>b9 (j,f,b)
 |i,w::r,j,f,b=>ck (bo (i<kinds.length))<|ck (bo (i+1<j.length))<|if(kinds.getD i 0==110)=bN then(Ma w).bind fun y=>AZ kinds (i+1) r (j.set (i+1) y.1) f (b || !y.2)else if(kinds.getD i 0==109)=bN then(CN w).bind fun y=>AZ kinds (i+1) r (j.set (i+1) y.1) f (b || !y.2)else if(kinds.getD i 0==102)=bN then(Cg w [60]).bind fun z=>(CN z.1).bind fun y=>AZ kinds (i+1) r (j.set (i+1) y.1) z.2 (b || !y.2)else AZ kinds (i+1) r j f b
def CG (line:L8):Option (Cm×Bool) :=(Xf line [32]).bind fun words=>ck (bo (0<words.length)&&bo (words.length<=1099511627776))<|(Bm (words.getD 0 a')).bind fun kinds=>Ht.bind fun j=>(Bp j (words.getD 0 a')).bind fun c=>if(!c || !((words.length:Int)==(kinds.length:Int)+1))then b9 (⟨[],[],bI,bI⟩,bI)else(AZ kinds 0 (words.drop 1) (df words.length 0) bI bI).bind fun y=>b9 (⟨words,y.1,y.2.1,y.2.2⟩,bN)
def EV (t:Int):Option Bool :=(EB t 0 10000000).bind fun j=>b9 j
def JX(s_:L8)(j:Int):Int->Option (Int⊕(Unit⊕Bool))
 |t16=>if(bo (t16<j))then ck (AS t16 s_.length)<|if((!((bo (97<=((s_.getD t16.toNat 0).toNat:Int)))&&(bo (((s_.getD t16.toNat 0).toNat:Int)<=122))))&&((t16==0)||(!(((bo (48<=((s_.getD t16.toNat 0).toNat:Int)))&&(bo (((s_.getD t16.toNat 0).toNat:Int)<=57)))||(((s_.getD t16.toNat 0).toNat:Int)==45)))))then b9 (.inr (.inr bI))else b9 (.inl (bs.wrap (t16+1)))else b9 (.inr (.inl ()))
def CD (s_:L8):Option Bool :=if((bo ((s_.length:Int)<1))||(bo (12<(s_.length:Int))))then b9 bI else(AE (JX s_ (s_.length:Int)) 0).bind fun C=>match C with
  |.inl I=>b9 bN
  |.inr j=>b9 j
def GP (j:AA):Option Bool :=(EV j.Time).bind fun C=>ck (!C||(CD j.Star).isSome)<|ck (!(C&&((CD j.Star).getD a'))||(CD j.Observer).isSome)<|ck (!((C&&((CD j.Star).getD a'))&&((CD j.Observer).getD a'))||(Ba j.Mag).isSome)<|some (((C&&((CD j.Star).getD a'))&&((CD j.Observer).getD a'))&&((Ba j.Mag).getD a'))
def Ia (x:Int):Option Bool :=some (!(x==x))
def GE(x y:Int):Option Int :=(Ia x).bind fun C=>(Ia y).bind fun j=>if C then if j then b9 0 else b9 (-1)else if j then b9 1 else if(bo (x<y))then b9 (-1)else if(bo (y<x))then b9 1 else b9 0
def EA(a b:L8):Option Int :=(APM a b).bind fun j=>b9 j
def IL(a b:L8):Option Int :=(EA a b).bind fun j=>b9 j
def KO(zero:Int)(j:List Int)(C:Int):Int->Option (Int⊕(Unit⊕Int))
 |t8=>if(bo (t8<C))then ck (AS t8 j.length)<|if(!((j.getD t8.toNat a')==zero))then b9 (.inr (.inr (j.getD t8.toNat a')))else b9 (.inl (bs.wrap (t8+1)))else b9 (.inr (.inl ()))
def Lp (j:List Int):Option Int :=(AE (KO 0 j (j.length:Int)) 0).bind fun I=>match I with
 |.inl J=>b9 0
 |.inr C=>b9 C
def Bc(a b:AA):Option Int :=(GE a.Time b.Time).bind fun J=>(IL a.Star b.Star).bind fun I=>(IL a.Observer b.Observer).bind fun C=>(Lp ([J,I,C]:List Int)).bind fun j=>b9 j
def DO(j I:List AA)(t9:Int):Int->Option (Int⊕(Unit⊕Bool))
 |t10=>if(bo (t10<t9))then ck (AS t10 I.length)<|(GP (I.getD t10.toNat a')).bind fun C=>ck (!((!(!C))&&(bo (0<t10)))||AS (bs.wrap (t10-1)) j.length)<|ck (!((!(!C))&&(bo (0<t10)))||(Bc (j.getD (bs.wrap (t10-1)).toNat a') (I.getD t10.toNat a')).isSome)<|if((!C)||((bo (0<t10))&&(bo (0<=((Bc (j.getD (bs.wrap (t10-1)).toNat a') (I.getD t10.toNat a')).getD a')))))then b9 (.inr (.inr bI))else b9 (.inl (bs.wrap (t10+1)))else b9 (.inr (.inl ()))
def BO (j:List AA):Option Bool :=if(bo (100<(j.length:Int)))then b9 bI else(AE (DO j j (j.length:Int)) 0).bind fun I=>match I with
  |.inl J=>b9 bN
  |.inr C=>b9 C
def Gt(C:List AA)(j:L8):Option (AA×Int) :=(BO C).bind fun y=>if(!y)then b9 ((AA.mk 0 [] [] 0 bI),1)else(CD j).bind fun z=>if(!z)then b9 ((AA.mk 0 [] [] 0 bI),2)else match C.reverse.find? (fun e=>e.Star==j)with
 |some e=>b9 (e,0)
 |none=>b9 ((AA.mk 0 [] [] 0 bI),3)
def FI(a b:AA)(j:Int):Option Bool :=if(a.Fainter&&b.Fainter)then b9 bI else if a.Fainter then b9 (bo ((bs.wrap (b.Mag+j))<a.Mag))else if b.Fainter then b9 (bo ((bs.wrap (a.Mag+j))<b.Mag))else(EU (bs.wrap (a.Mag-b.Mag))).bind fun C=>b9 (bo (j<C))
def DP(i k:Int)(j:List AA)(t3 C:Int):Option Bool :=ck (AS i j.length)<|ck (AS k j.length)<|ck (!(((j.getD i.toNat a').Star)==((j.getD k.toNat a').Star))||(EU (bs.wrap (((j.getD i.toNat a').Time)-((j.getD k.toNat a').Time)))).isSome)<|ck (!((((j.getD i.toNat a').Star)==((j.getD k.toNat a').Star))&&(bo (((EU (bs.wrap (((j.getD i.toNat a').Time)-((j.getD k.toNat a').Time)))).getD a')<=t3)))||(FI (j.getD i.toNat a') (j.getD k.toNat a') C).isSome)<|some (((((j.getD i.toNat a').Star)==((j.getD k.toNat a').Star))&&(bo (((EU (bs.wrap (((j.getD i.toNat a').Time)-((j.getD k.toNat a').Time)))).getD a')<=t3)))&&((FI (j.getD i.toNat a') (j.getD k.toNat a') C).getD a'))
def Ah(n:Int)(c:List AA)(c2 c3 i t9 t10:Int):((List (List Int))×Int)->Option (((List (List Int))×Int)⊕(List (List Int)))
 |(out,k)=>if(bo (k<n))then(DP i k c c2 c3).bind fun j=>if j then ck (Dg (out.length+([([i,k]:List Int)]:List (List Int)).length) 24)<|some (.inl ((out++([([i,k]:List Int)]:List (List Int))),(bs.wrap (k+1))))else b9 (.inl (out,(bs.wrap (k+1))))else b9 (.inr out)
def Ac(n:Int)(c:List AA)(c2 c3 t9:Int):((List (List Int))×Int)->Option (((List (List Int))×Int)⊕(List (List Int)))
 |(out,t10)=>if(bo (t10<t9))then(AE (Ah n c c2 c3 t10 t9 t10) (out,(bs.wrap (t10+1)))).bind fun j=>b9 (.inl (j,(bs.wrap (t10+1))))else b9 (.inr out)
def BV(n:Int)(I:List AA)(C j:Int):Option (List (List Int)) :=(AE (Ac n I C j n) (([]:List (List Int)),0)).bind fun J=>b9 J
def CU(j:List AA)(C I:Int):Option ((List (List Int))×Int) :=(BO j).bind fun U=>if(!U)then b9 (([]:List (List Int)),1)else(EB C 0 100000).bind fun J=>ck (!(!(!J))||(EB I 1 20000).isSome)<|if((!J)||(!((EB I 1 20000).getD a')))then b9 (([]:List (List Int)),2)else(BV (j.length:Int) j C I).bind fun R=>b9 (R,0)
def Kq (x:Star):Option Bool :=(EB x.Ascend 0 86399).bind fun j=>ck (!j||(EB x.Decl (-324000) 324000).isSome)<|(CD x.Name).bind fun C=>ck (!(C&&(j&&((EB x.Decl (-324000) 324000).getD a')))||(Ba x.Bright).isSome)<|ck (!((C&&(j&&((EB x.Decl (-324000) 324000).getD a')))&&((Ba x.Bright).getD a'))||(Ba x.Faint).isSome)<|some ((((C&&(j&&((EB x.Decl (-324000) 324000).getD a')))&&((Ba x.Bright).getD a'))&&((Ba x.Faint).getD a'))&&(bo (x.Bright<=x.Faint)))
def DH (x:Star):Option L8 :=some x.Name
def Ag(j I:List Star)(J:Int):Int->Option (Int⊕(Unit⊕Bool))
 |t17=>if(bo (t17<J))then ck (AS t17 I.length)<|(Kq (I.getD t17.toNat a')).bind fun C=>ck (!((!(!C))&&(bo (0<t17)))||AS (bs.wrap (t17-1)) j.length)<|ck (!((!(!C))&&(bo (0<t17)))||(DH (j.getD (bs.wrap (t17-1)).toNat a')).isSome)<|ck (!((!(!C))&&(bo (0<t17)))||(DH (I.getD t17.toNat a')).isSome)<|if((!C)||((bo (0<t17))&&(!(cw ((DH (j.getD (bs.wrap (t17-1)).toNat a')).getD a') ((DH (I.getD t17.toNat a')).getD a')))))then b9 (.inr (.inr bI))else b9 (.inl (bs.wrap (t17+1)))else b9 (.inr (.inl ()))
def BJ(j:List Star)(I:Int):Option Bool :=if(bo (I<(j.length:Int)))then b9 bI else(AE (Ag j j (j.length:Int)) 0).bind fun J=>match J with
  |.inl R=>b9 bN
  |.inr C=>b9 C
def GQ (j:List Star):Option Bool :=(BJ j 60).bind fun C=>b9 C
def KE(x:Star)(j:L8):Option Bool :=some (x.Name==j)
def Al(s_:List Star)(c:L8)(C:Int):Int->Option (Int⊕(Unit⊕Int))
 |t8=>if(bo (t8<C))then ck (AS t8 s_.length)<|(KE (s_.getD t8.toNat a') c).bind fun j=>if j then b9 (.inr (.inr t8))else b9 (.inl (bs.wrap (t8+1)))else b9 (.inr (.inl ()))
def Ay(s_:List Star)(C:L8):Option Int :=(AE (Al s_ C (s_.length:Int)) 0).bind fun I=>match I with
 |.inl J=>b9 (-1)
 |.inr j=>b9 j
def Ar(s_:List Star)(j:L8):Option Bool :=(Ay s_ j).bind fun C=>b9 (bo (0<=C))
def EC(C:List Star)(j:L8):Option Bool :=(Ar C j).bind fun I=>b9 I
def Aw(j:List Star)(x:Star):Int->Option (Int⊕Int)
 |k=>ck (!(bo (k<(j.length:Int)))||AS k j.length)<|ck (!(bo (k<(j.length:Int)))||(DH (j.getD k.toNat a')).isSome)<|ck (!(bo (k<(j.length:Int)))||(DH x).isSome)<|if((bo (k<(j.length:Int)))&&(cw ((DH (j.getD k.toNat a')).getD a') ((DH x).getD a')))then b9 (.inl (bs.wrap (k+1)))else b9 (.inr k)
def Bq(j:List Star)(x:Star):Option (List Star) :=(AE (Aw j x) 0).bind fun J=>(Bt j).bind fun I=>(kZ 48 I J ([x]:List Star)).bind fun C=>b9 C
def Fo(j:List Star)(x:Star):Option ((List Star)×Int) :=(GQ j).bind fun R=>if(!R)then b9 (([]:List Star),1)else(Kq x).bind fun J=>if(!J)then b9 (([]:List Star),2)else(EC j x.Name).bind fun I=>if I then b9 (([]:List Star),4)else if((j.length:Int)==60)then b9 (([]:List Star),5)else(Bq j x).bind fun C=>b9 (C,0)
def AI(x:List AA)(C:AA)(n:Int):(Int×Int)->Option ((Int×Int)⊕Int)
 |(i,j)=>if(bo (i<j))then ck (TS 1)<|ck (AS (hF (i+j)) x.length)<|(Bc (x.getD (hF (i+j)).toNat a') C).bind fun I=>if(bo (I<0))then b9 (.inl ((bs.wrap ((hF (i+j))+1)),j))else b9 (.inl (i,(hF (i+j))))else b9 (.inr i)
def AL(x:List AA)(j:AA):Option (Int×Bool) :=(AE (AI x j (x.length:Int)) (0,(x.length:Int))).bind fun C=>ck (!(bo (C<(x.length:Int)))||AS C x.length)<|ck (!(bo (C<(x.length:Int)))||(Bc (x.getD C.toNat a') j).isSome)<|some (C,((bo (C<(x.length:Int)))&&(((Bc (x.getD C.toNat a') j).getD a')==0)))
def Ce(j:List AA)(e_:AA):Option ((List AA)×Int) :=(BO j).bind fun U=>if(!U)then b9 (([]:List AA),1)else(GP e_).bind fun R=>if(!R)then b9 (([]:List AA),2)else(AL j e_).bind fun C=>if C.2 then b9 (([]:List AA),4)else if((j.length:Int)==100)then b9 (([]:List AA),5)else(BZ j).bind fun J=>(kZ 56 J C.1 ([e_]:List AA)).bind fun I=>b9 (I,0)
def Ei (C:AU):Option L8 :=(Av C.Day).bind fun j=>ck (CM j.length ([32]:L8).length)<|ck (CM (j++([32]:L8)).length C.What.length)<|ck (CM ((j++([32]:L8))++C.What).length ([32]:L8).length)<|(Av C.Value).bind fun I=>ck (CM (((j++([32]:L8))++C.What)++([32]:L8)).length I.length)<|some ((((j++([32]:L8))++C.What)++([32]:L8))++I)
def NK(j:L8)(C:Int):(Int×Int)->Option ((Int×Int)⊕Int)
 |(sum,t15)=>if(bo (t15<C))then ck (AS t15 j.length)<|ck (nz 65521)<|some (.inl (((bs.wrap ((bs.wrap (31*sum))+((j.getD t15.toNat 0).toNat:Int))).tmod 65521),(bs.wrap (t15+1))))else b9 (.inr sum)
def JF(j:Int)(J:AU):Option Int :=ck (nz 65521)<|(Ei J).bind fun C=>(AE (NK C (C.length:Int)) (((bs.wrap (j+23)).tmod 65521),0)).bind fun I=>b9 I
def MF(J:AU)(I:Int):Option L8 :=(Ei J).bind fun j=>ck (CM j.length ([32]:L8).length)<|(Av I).bind fun C=>ck (CM (j++([32]:L8)).length C.length)<|ck (CM ((j++([32]:L8))++C).length ([10]:L8).length)<|some (((j++([32]:L8))++C)++([10]:L8))
def FJ (C:AU):Option Bool :=(EB C.Day 0 100000).bind fun j=>ck (!j||(CD C.What).isSome)<|ck (!(j&&((CD C.What).getD a'))||(EB C.Value (-1000000) 1000000).isSome)<|some ((j&&((CD C.What).getD a'))&&((EB C.Value (-1000000) 1000000).getD a'))
def Fw (line:L8):Option (AU×Int×Bool) :=(Xf line ([32]:L8)).bind fun j=>if(!((j.length:Int)==4))then b9 ((AU.mk 0 [] 0),0,bI)else ck (AS 0 j.length)<|(Ma (j.getD 0 a')).bind fun I=>ck (AS 2 j.length)<|(Ma (j.getD 2 a')).bind fun C=>ck (AS 3 j.length)<|(Ma (j.getD 3 a')).bind fun J=>ck (AS 1 j.length)<|ck (!((I.2&&C.2)&&J.2)||(FJ (AU.mk I.1 (j.getD 1 a') C.1)).isSome)<|some ((AU.mk I.1 (j.getD 1 a') C.1),J.1,(((I.2&&C.2)&&J.2)&&((FJ (AU.mk I.1 (j.getD 1 a') C.1)).getD a')))
def GO (log:L8):((List AU)×Int×Int×Int)->Option (((List AU)×Int×Int×Int)⊕((List AU)×Int×Int))
 |(entries,used,last,day)=>ck (Ja used (log.length:Int) log.length)<|(fY (cut log used (log.length:Int)) ([10]:L8)).bind fun C=>(Fw C.1).bind fun j=>ck (!(!(((!C.2.2)||(!j.2.2))||(bo (j.1.Day<day))))||(JF last j.1).isSome)<|if((((!C.2.2)||(!j.2.2))||(bo (j.1.Day<day)))||(!(j.2.1==((JF last j.1).getD a'))))then b9 (.inr (entries,used,last))else ck (Dg (entries.length+([j.1]:List AU).length) 32)<|some (.inl ((entries++([j.1]:List AU)),(bs.wrap (used+(bs.wrap ((C.1.length:Int)+1)))),j.2.1,j.1.Day))
def Ip (log:L8):Option ((List AU)×Int×Int) :=(AE (GO log) (([]:List AU),0,0,0)).bind fun j=>b9 (j.1,j.2.1,j.2.2)
def Fm (log:L8):Option ((List AU)×Int×Int) :=if(bo (4000<(log.length:Int)))then b9 (([]:List AU),0,5)else(Ip log).bind fun j=>if(bo (j.2.1<(log.length:Int)))then b9 (([]:List AU),0,8)else b9 (j.1,j.2.2,0)
def Du(log:L8)(I:AU):Option (L8×Int) :=(Fm log).bind fun j=>if(!(j.2.2==0))then b9 (([]:L8),j.2.2)else(FJ I).bind fun R=>if(!R)then b9 (([]:L8),7)else ck (!(bo (0<(j.1.length:Int)))||AS (bs.wrap ((j.1.length:Int)-1)) j.1.length)<|if((bo (0<(j.1.length:Int)))&&(bo (I.Day<((j.1.getD (bs.wrap ((j.1.length:Int)-1)).toNat a').Day))))then b9 (([]:L8),6)else(JF j.2.1 I).bind fun J=>(MF I J).bind fun C=>ck (CM log.length C.length)<|if(bo (4000<((log++C).length:Int)))then b9 (([]:L8),5)else b9 ((log++C),0)
def EY (log:L8):Option ((List AU)×Int) :=(Fm log).bind fun j=>b9 (j.1,j.2.2)
def JW(C:AU)(j:L8):Option Bool :=some (C.What==j)
def Bj(c:L8)(t9:List AU)(t10:Int):((List Int)×Int)->Option (((List Int)×Int)⊕(List Int))
 |(out,t11)=>if(bo (t11<t10))then ck (AS t11 t9.length)<|(JW (t9.getD t11.toNat a') c).bind fun j=>if j then ck (Dg (out.length+([(t9.getD t11.toNat a').Value]:List Int).length) 8)<|some (.inl ((out++([(t9.getD t11.toNat a').Value]:List Int)),(bs.wrap (t11+1))))else b9 (.inl (out,(bs.wrap (t11+1))))else b9 (.inr out)
def Ct(j:List AU)(C:L8):Option (List Int) :=(AE (Bj C j (j.length:Int)) (([]:List Int),0)).bind fun I=>b9 I
def Ds(log what:L8):Option ((List Int)×Int) :=(EY log).bind fun j=>if(!(j.2==0))then b9 (([]:List Int),j.2)else(CD what).bind fun I=>if(!I)then b9 (([]:List Int),2)else(Ct j.1 what).bind fun C=>b9 (C,0)
def Fx (j:List Star):Option Int :=some (j.length:Int)
def ET (j:List AA):Option Int :=some (j.length:Int)
def DD (d:Ad):Option L8 :=(Fx d.Stars).bind fun J=>(Av J).bind fun j=>ck (CM j.length ([32,115,116,97,114,115,32]:L8).length)<|(ET d.Estimates).bind fun I=>(Av I).bind fun C=>ck (CM (j++([32,115,116,97,114,115,32]:L8)).length C.length)<|ck (CM ((j++([32,115,116,97,114,115,32]:L8))++C).length ([32,101,115,116,105,109,97,116,101,115]:L8).length)<|some (((j++([32,115,116,97,114,115,32]:L8))++C)++([32,101,115,116,105,109,97,116,101,115]:L8))
def DY(line:L8)(j:Int):Option ((List L8)×Int) :=some (([line]:List L8),j)
def Io(j:List Int)(C:Int):(Int×Int)->Option ((Int×Int)⊕Int)
 |(n,t8)=>if(bo (t8<C))then ck (AS t8 j.length)<|some (.inl ((bs.wrap (n+(j.getD t8.toNat a'))),(bs.wrap (t8+1))))else b9 (.inr n)
def Hp (j:List Int):Option Int :=(AE (Io j (j.length:Int)) (0,0)).bind fun C=>b9 C
def DE(d:Ad)(c:Cm):Option ((List L8)×Int×Ad) :=ck (AS 0 c.words_.length)<|if((c.words_.getD 0 a')==([115,116,97,114]:L8))then ck (AS 1 c.words_.length)<|ck (AS 2 c.numbers_.length)<|ck (AS 3 c.numbers_.length)<|ck (AS 4 c.numbers_.length)<|ck (AS 5 c.numbers_.length)<|(Fo d.Stars (Star.mk (c.words_.getD 1 a') (c.numbers_.getD 2 a') (c.numbers_.getD 3 a') (c.numbers_.getD 4 a') (c.numbers_.getD 5 a'))).bind fun aa=>(DD (Ad.mk aa.1 d.Estimates d.Log)).bind fun ao=>(DY ao aa.2).bind fun U=>b9 (U.1,U.2,(Ad.mk aa.1 d.Estimates d.Log))else if((c.words_.getD 0 a')==([101,115,116]:L8))then ck (AS 2 c.words_.length)<|(EC d.Stars (c.words_.getD 2 a')).bind fun aj=>if(!aj)then b9 (([]:List L8),3,d)else ck (AS 1 c.numbers_.length)<|ck (AS 3 c.words_.length)<|ck (AS 4 c.numbers_.length)<|(Ce d.Estimates (AA.mk (c.numbers_.getD 1 a') (c.words_.getD 2 a') (c.words_.getD 3 a') (c.numbers_.getD 4 a') c.fainter_)).bind fun C=>(DD (Ad.mk d.Stars C.1 d.Log)).bind fun ae=>(DY ae C.2).bind fun R=>b9 (R.1,R.2,(Ad.mk d.Stars C.1 d.Log))else ck (AS 1 c.numbers_.length)<|ck (AS 2 c.words_.length)<|ck (AS 3 c.numbers_.length)<|(Du d.Log (AU.mk (c.numbers_.getD 1 a') (c.words_.getD 2 a') (c.numbers_.getD 3 a'))).bind fun j=>if(!(j.2==0))then b9 (([]:List L8),j.2,(Ad.mk d.Stars d.Estimates j.1))else(Ds j.1 (c.words_.getD 2 a')).bind fun J=>(Hp J.1).bind fun ad=>(Av ad).bind fun ab=>(DY ab J.2).bind fun I=>b9 (I.1,I.2,(Ad.mk d.Stars d.Estimates j.1))
def KF(j:AA)(C:L8):Option Bool :=some ((j.Star==C)&&(!j.Fainter))
def BD(c:L8)(t9:List AA)(t10:Int):((List AA)×Int)->Option (((List AA)×Int)⊕(List AA))
 |(out,t11)=>if(bo (t11<t10))then ck (AS t11 t9.length)<|(KF (t9.getD t11.toNat a') c).bind fun j=>if j then ck (Dg (out.length+([(t9.getD t11.toNat a')]:List AA).length) 56)<|some (.inl ((out++([(t9.getD t11.toNat a')]:List AA)),(bs.wrap (t11+1))))else b9 (.inl (out,(bs.wrap (t11+1))))else b9 (.inr out)
def BK(C:List AA)(j:L8):Option (List AA) :=(AE (BD j C (C.length:Int)) (([]:List AA),0)).bind fun I=>b9 I
def JV (j:List Int):Option Int :=some (j.length:Int)
def En(a b:Int):Option Int :=ck (nz b)<|if(bo ((a.tmod b)<0))then b9 (bs.wrap ((bs.wrap (a.tdiv b))-1))else b9 (bs.wrap (a.tdiv b))
def MX(I C:Int):Option Int :=(En I C).bind fun j=>if(bo ((bs.wrap (C-(bs.wrap (I-(bs.wrap (j*C))))))<=(bs.wrap (I-(bs.wrap (j*C))))))then b9 (bs.wrap (j+1))else b9 j
def OJ (j:List Int):Option Int :=(Hp j).bind fun J=>(JV j).bind fun I=>(MX J I).bind fun C=>b9 C
def GR(j:List AA)(out:List AJ)(I:Int):(Int×(List Int))->Option ((Int×(List Int))⊕(Int×(List Int)))
 |(i,C)=>ck (!(bo (i<(j.length:Int)))||AS i j.length)<|if((bo (i<(j.length:Int)))&&(((j.getD i.toNat a').Time)==I))then ck (AS i j.length)<|ck (Dg (C.length+([(j.getD i.toNat a').Mag]:List Int).length) 8)<|some (.inl ((bs.wrap (i+1)),(C++([(j.getD i.toNat a').Mag]:List Int))))else b9 (.inr (i,C))
def IY (j:List AA):((List AJ)×Int)->Option (((List AJ)×Int)⊕(List AJ))
 |(out,i)=>if(bo (i<(j.length:Int)))then ck (AS i j.length)<|(AE (GR j out ((j.getD i.toNat a').Time)) (i,([]:List Int))).bind fun I=>(OJ I.2).bind fun C=>ck (Dg (out.length+([(AJ.mk ((j.getD i.toNat a').Time) C)]:List AJ).length) 16)<|some (.inl ((out++([(AJ.mk ((j.getD i.toNat a').Time) C)]:List AJ)),I.1))else b9 (.inr out)
def Jp(C:List AA)(j:L8):Option ((List AJ)×Int) :=(BO C).bind fun U=>if(!U)then b9 (([]:List AJ),1)else(CD j).bind fun R=>if(!R)then b9 (([]:List AJ),2)else(BK C j).bind fun J=>(AE (IY J) (([]:List AJ),0)).bind fun I=>b9 (I,0)
def Cq(j I:List AJ)(t9:Int):Int->Option (Int⊕(Unit⊕Bool))
 |t10=>if(bo (t10<t9))then ck (AS t10 I.length)<|(EV ((I.getD t10.toNat a').Time)).bind fun C=>ck (!(!(!C))||(Ba ((I.getD t10.toNat a').Mag)).isSome)<|ck (!((!((!C)||(!((Ba ((I.getD t10.toNat a').Mag)).getD a'))))&&(bo (0<t10)))||AS (bs.wrap (t10-1)) j.length)<|if(((!C)||(!((Ba ((I.getD t10.toNat a').Mag)).getD a')))||((bo (0<t10))&&(bo (((I.getD t10.toNat a').Time)<=((j.getD (bs.wrap (t10-1)).toNat a').Time)))))then b9 (.inr (.inr bI))else b9 (.inl (bs.wrap (t10+1)))else b9 (.inr (.inl ()))
def Ec (j:List AJ):Option Bool :=if(bo (100<(j.length:Int)))then b9 bI else(AE (Cq j j (j.length:Int)) 0).bind fun I=>match I with
  |.inl J=>b9 bN
  |.inr C=>b9 C
def FY (x:CI):Option Bool :=(EB x.From 1 1000000).bind fun j=>ck (!(!(!j))||(EB x.To x.From 1000000).isSome)<|ck (!(!((!j)||(!((EB x.To x.From 1000000).getD a'))))||(EB x.Step 1 1000000).isSome)<|if(((!j)||(!((EB x.To x.From 1000000).getD a')))||(!((EB x.Step 1 1000000).getD a')))then b9 bI else ck (nz x.Step)<|some (bo ((bs.wrap ((bs.wrap ((bs.wrap (x.To-x.From)).tdiv x.Step))+1))<=500))
def KC(j:List AJ)(x:CI)(C:Int):Option Int :=(Ec j).bind fun I=>ck (!(!(!I))||(FY x).isSome)<|if((!I)||(!((FY x).getD a')))then b9 1 else if(bo (40<(j.length:Int)))then b9 5 else if(bo ((j.length:Int)<C))then b9 3 else b9 0
def ED (x:CI):((List Int)×Int)->Option (((List Int)×Int)⊕(List Int))
 |(out,p)=>if(bo (p<=x.To))then ck (Dg (out.length+([p]:List Int).length) 8)<|some (.inl ((out++([p]:List Int)),(bs.wrap (p+x.Step))))else b9 (.inr out)
def FG (x:CI):Option (List Int) :=(AE (ED x) (([]:List Int),x.From)).bind fun j=>b9 j
def KD (t0:Int):Option Bool :=some bN
def Be (C:Int):((List Int)×Int)->Option (((List Int)×Int)⊕(List Int))
 |(out,t9)=>if(bo (t9<C))then(KD t9).bind fun j=>if j then ck (Dg (out.length+([t9]:List Int).length) 8)<|some (.inl ((out++([t9]:List Int)),(bs.wrap (t9+1))))else b9 (.inl (out,(bs.wrap (t9+1))))else b9 (.inr out)
def Bk (n:Int):Option (List Int) :=(AE (Be n) (([]:List Int),0)).bind fun j=>b9 j
def Oi(a b:Int):Option Int :=(En a b).bind fun j=>b9 (bs.wrap (a-(bs.wrap (j*b))))
def Dm(I:AG)(j:Int):Option Int :=(Oi (bs.wrap (j-I.Epoch)) I.Period).bind fun C=>b9 C
def De(i:Int)(I:AG)(C:List AJ):Option Int :=ck (AS i C.length)<|(Dm I ((C.getD i.toNat a').Time)).bind fun j=>b9 j
def BL(a b:Int)(C:AG)(j:List AJ):Option Int :=(De a C j).bind fun J=>(De b C j).bind fun I=>if(!(J==I))then if(bo (J<I))then b9 (-1)else b9 1 else b9 0
def Bw(a b:Int)(c:AG)(c2:List AJ)(i:Int):((List Int)×Int)->Option (((List Int)×Int)⊕(List Int))
 |(data,j)=>ck (!(bo (a<j))||AS j data.length)<|ck (!(bo (a<j))||AS (bs.wrap (j-1)) data.length)<|ck (!(bo (a<j))||(BL (data.getD j.toNat a') (data.getD (bs.wrap (j-1)).toNat a') c c2).isSome)<|if((bo (a<j))&&(bo (((BL (data.getD j.toNat a') (data.getD (bs.wrap (j-1)).toNat a') c c2).getD a')<0)))then ck (AS (bs.wrap (j-1)) data.length)<|ck (AS j data.length)<|some (.inl (((data.set j.toNat (data.getD (bs.wrap (j-1)).toNat a')).set ((bs.wrap (j-1)).toNat) (data.getD j.toNat a')),(bs.wrap (j-1))))else b9 (.inr data)
def By(a b:Int)(c:AG)(c2:List AJ):((List Int)×Int)->Option (((List Int)×Int)⊕(List Int))
 |(data,i)=>if(bo (i<b))then(AE (Bw a b c c2 i) (data,i)).bind fun j=>b9 (.inl (j,(bs.wrap (i+1))))else b9 (.inr data)
def BF(data:List Int)(a b:Int)(C:AG)(j:List AJ):Option (List Int) :=(AE (By a b C j) (data,(bs.wrap (a+1)))).bind fun I=>ck (I.length==data.length)<|some I
def CS(a b n:Int):((List Int)×Int)->Option (((List Int)×Int)⊕(List Int))
 |(data,i)=>if(bo (i<n))then ck (AS (bs.wrap (b+i)) data.length)<|ck (AS (bs.wrap (a+i)) data.length)<|some (.inl (((data.set ((bs.wrap (a+i)).toNat) (data.getD (bs.wrap (b+i)).toNat a')).set ((bs.wrap (b+i)).toNat) (data.getD (bs.wrap (a+i)).toNat a')),(bs.wrap (i+1))))else b9 (.inr data)
def Ax(data:List Int)(a b n:Int)(C:AG)(j:List AJ):Option (List Int) :=(AE (CS a b n) (data,0)).bind fun I=>ck (I.length==data.length)<|some I
def Cp(m:Int)(c:AG)(c2:List AJ):((List Int)×Int×Int)->Option (((List Int)×Int×Int)⊕((List Int)×Int))
 |(data,i,j)=>if(!(i==j))then if(bo (j<i))then(Ax data (bs.wrap (m-i)) m j c c2).bind fun I=>b9 (.inl (I,(bs.wrap (i-j)),j))else(Ax data (bs.wrap (m-i)) (bs.wrap ((bs.wrap (m+j))-i)) i c c2).bind fun C=>b9 (.inl (C,i,(bs.wrap (j-i))))else b9 (.inr (data,i))
def Bd(data:List Int)(a m b:Int)(C:AG)(j:List AJ):Option (List Int) :=(AE (Cp m C j) (data,(bs.wrap (m-a)),(bs.wrap (b-m)))).bind fun I=>(Ax I.1 (bs.wrap (m-I.2)) m I.2 C j).bind fun J=>ck (J.length==data.length)<|some J
def Cb(data:List Int)(a:Int)(c:AG)(c2:List AJ):(Int×Int)->Option ((Int×Int)⊕Int)
 |(i,j)=>if(bo (i<j))then ck (TS 1)<|ck (AS (hF (i+j)) data.length)<|ck (AS a data.length)<|(BL (data.getD (hF (i+j)).toNat a') (data.getD a.toNat a') c c2).bind fun C=>if(bo (C<0))then b9 (.inl ((bs.wrap ((hF (i+j))+1)),j))else b9 (.inl (i,(hF (i+j))))else b9 (.inr i)
def Ca (i:Int):((List Int)×Int)->Option (((List Int)×Int)⊕(List Int))
 |(data,k)=>if(bo (k<(bs.wrap (i-1))))then ck (AS (bs.wrap (k+1)) data.length)<|ck (AS k data.length)<|some (.inl (((data.set k.toNat (data.getD (bs.wrap (k+1)).toNat a')).set ((bs.wrap (k+1)).toNat) (data.getD k.toNat a')),(bs.wrap (k+1))))else b9 (.inr data)
def CZ(data:List Int)(m:Int)(c:AG)(c2:List AJ):(Int×Int)->Option ((Int×Int)⊕Int)
 |(i,j)=>if(bo (i<j))then ck (TS 1)<|ck (AS m data.length)<|ck (AS (hF (i+j)) data.length)<|(BL (data.getD m.toNat a') (data.getD (hF (i+j)).toNat a') c c2).bind fun C=>if(!(bo (C<0)))then b9 (.inl ((bs.wrap ((hF (i+j))+1)),j))else b9 (.inl (i,(hF (i+j))))else b9 (.inr i)
def CY (i:Int):((List Int)×Int)->Option (((List Int)×Int)⊕(List Int))
 |(data,k)=>if(bo (i<k))then ck (AS (bs.wrap (k-1)) data.length)<|ck (AS k data.length)<|some (.inl (((data.set k.toNat (data.getD (bs.wrap (k-1)).toNat a')).set ((bs.wrap (k-1)).toNat) (data.getD k.toNat a')),(bs.wrap (k-1))))else b9 (.inr data)
def CX(data:List Int)(a m b:Int)(c:AG)(c2:List AJ)(C n p:Int):(Int×Int)->Option ((Int×Int)⊕Int)
 |(start,r)=>if(bo (start<r))then ck (TS 1)<|ck (AS (bs.wrap (p-(hF (start+r)))) data.length)<|ck (AS (hF (start+r)) data.length)<|(BL (data.getD (bs.wrap (p-(hF (start+r)))).toNat a') (data.getD (hF (start+r)).toNat a') c c2).bind fun j=>if(!(bo (j<0)))then b9 (.inl ((bs.wrap ((hF (start+r))+1)),r))else b9 (.inl (start,(hF (start+r))))else b9 (.inr start)
def CW(data:List Int)(a m b:Int)(c:AG)(c2:List AJ)(C n p:Int):(Int×Int)->Option ((Int×Int)⊕Int)
 |(start,r)=>if(bo (start<r))then ck (TS 1)<|ck (AS (bs.wrap (p-(hF (start+r)))) data.length)<|ck (AS (hF (start+r)) data.length)<|(BL (data.getD (bs.wrap (p-(hF (start+r)))).toNat a') (data.getD (hF (start+r)).toNat a') c c2).bind fun j=>if(!(bo (j<0)))then b9 (.inl ((bs.wrap ((hF (start+r))+1)),r))else b9 (.inl (start,(hF (start+r))))else b9 (.inr start)
def AH:Nat->(List Int)->Int->Int->Int->AG->(List AJ)->Option (List Int)
 |0,_,_,_,_,_,_=>c7
 |n_+1,data,a,m,b,C,j=>if((bs.wrap (m-a))==1)then(AE (Cb data a C j) (m,b)).bind fun be=>(AE (Ca be) (data,a)).bind fun ba=>ck (ba.length==data.length)<|some ba else if((bs.wrap (b-m))==1)then(AE (CZ data m C j) (a,m)).bind fun bb=>(AE (CY bb) (data,m)).bind fun a8=>ck (a8.length==data.length)<|some a8 else ck (TS 1)<|if(bo ((hF (a+b))<m))then(AE (CX data a m b C j (hF (a+b)) (bs.wrap ((hF (a+b))+m)) (bs.wrap ((bs.wrap ((hF (a+b))+m))-1))) ((bs.wrap ((bs.wrap ((hF (a+b))+m))-b)),(hF (a+b)))).bind fun J=>if((bo (J<m))&&(bo (m<(bs.wrap ((bs.wrap ((hF (a+b))+m))-J)))))then(Bd data J m (bs.wrap ((bs.wrap ((hF (a+b))+m))-J)) C j).bind fun U=>if((bo (a<J))&&(bo (J<(hF (a+b)))))then(AH n_ U a J (hF (a+b)) C j).bind fun aj=>if((bo ((hF (a+b))<(bs.wrap ((bs.wrap ((hF (a+b))+m))-J))))&&(bo ((bs.wrap ((bs.wrap ((hF (a+b))+m))-J))<b)))then(AH n_ aj (hF (a+b)) (bs.wrap ((bs.wrap ((hF (a+b))+m))-J)) b C j).bind fun a7=>ck (a7.length==data.length)<|some a7 else ck (aj.length==data.length)<|some aj else if((bo ((hF (a+b))<(bs.wrap ((bs.wrap ((hF (a+b))+m))-J))))&&(bo ((bs.wrap ((bs.wrap ((hF (a+b))+m))-J))<b)))then(AH n_ U (hF (a+b)) (bs.wrap ((bs.wrap ((hF (a+b))+m))-J)) b C j).bind fun a6=>ck (a6.length==data.length)<|some a6 else ck (U.length==data.length)<|some U else if((bo (a<J))&&(bo (J<(hF (a+b)))))then(AH n_ data a J (hF (a+b)) C j).bind fun ae=>if((bo ((hF (a+b))<(bs.wrap ((bs.wrap ((hF (a+b))+m))-J))))&&(bo ((bs.wrap ((bs.wrap ((hF (a+b))+m))-J))<b)))then(AH n_ ae (hF (a+b)) (bs.wrap ((bs.wrap ((hF (a+b))+m))-J)) b C j).bind fun a1=>ck (a1.length==data.length)<|some a1 else ck (ae.length==data.length)<|some ae else if((bo ((hF (a+b))<(bs.wrap ((bs.wrap ((hF (a+b))+m))-J))))&&(bo ((bs.wrap ((bs.wrap ((hF (a+b))+m))-J))<b)))then(AH n_ data (hF (a+b)) (bs.wrap ((bs.wrap ((hF (a+b))+m))-J)) b C j).bind fun az=>ck (az.length==data.length)<|some az else b9 data else(AE (CW data a m b C j (hF (a+b)) (bs.wrap ((hF (a+b))+m)) (bs.wrap ((bs.wrap ((hF (a+b))+m))-1))) (a,m)).bind fun I=>if((bo (I<m))&&(bo (m<(bs.wrap ((bs.wrap ((hF (a+b))+m))-I)))))then(Bd data I m (bs.wrap ((bs.wrap ((hF (a+b))+m))-I)) C j).bind fun R=>if((bo (a<I))&&(bo (I<(hF (a+b)))))then(AH n_ R a I (hF (a+b)) C j).bind fun ad=>if((bo ((hF (a+b))<(bs.wrap ((bs.wrap ((hF (a+b))+m))-I))))&&(bo ((bs.wrap ((bs.wrap ((hF (a+b))+m))-I))<b)))then(AH n_ ad (hF (a+b)) (bs.wrap ((bs.wrap ((hF (a+b))+m))-I)) b C j).bind fun ay=>ck (ay.length==data.length)<|some ay else ck (ad.length==data.length)<|some ad else if((bo ((hF (a+b))<(bs.wrap ((bs.wrap ((hF (a+b))+m))-I))))&&(bo ((bs.wrap ((bs.wrap ((hF (a+b))+m))-I))<b)))then(AH n_ R (hF (a+b)) (bs.wrap ((bs.wrap ((hF (a+b))+m))-I)) b C j).bind fun ax=>ck (ax.length==data.length)<|some ax else ck (R.length==data.length)<|some R else if((bo (a<I))&&(bo (I<(hF (a+b)))))then(AH n_ data a I (hF (a+b)) C j).bind fun ab=>if((bo ((hF (a+b))<(bs.wrap ((bs.wrap ((hF (a+b))+m))-I))))&&(bo ((bs.wrap ((bs.wrap ((hF (a+b))+m))-I))<b)))then(AH n_ ab (hF (a+b)) (bs.wrap ((bs.wrap ((hF (a+b))+m))-I)) b C j).bind fun au=>ck (au.length==data.length)<|some au else ck (ab.length==data.length)<|some ab else if((bo ((hF (a+b))<(bs.wrap ((bs.wrap ((hF (a+b))+m))-I))))&&(bo ((bs.wrap ((bs.wrap ((hF (a+b))+m))-I))<b)))then(AH n_ data (hF (a+b)) (bs.wrap ((bs.wrap ((hF (a+b))+m))-I)) b C j).bind fun ao=>ck (ao.length==data.length)<|some ao else b9 data
def BW(data:List Int)(a m b:Int)(C:AG)(j:List AJ):Option (List Int):=AH 64 data a m b C j
def Co(n:Int)(c:AG)(c2:List AJ)(j:Int):((List Int)×Int×Int)->Option (((List Int)×Int×Int)⊕((List Int)×Int))
 |(data,a,b)=>if(bo (b<=n))then(BF data a b c c2).bind fun C=>b9 (.inl (C,b,(bs.wrap (b+j))))else b9 (.inr (data,a))
def BR(n:Int)(c:AG)(c2:List AJ)(j:Int):((List Int)×Int×Int)->Option (((List Int)×Int×Int)⊕((List Int)×Int))
 |(data,a,b)=>if(bo (b<=n))then(BW data a (bs.wrap (a+j)) b c c2).bind fun C=>b9 (.inl (C,b,(bs.wrap (b+(bs.wrap (2*j))))))else b9 (.inr (data,a))
def BS(n:Int)(c:AG)(c2:List AJ):((List Int)×Int)->Option (((List Int)×Int)⊕(List Int))
 |(data,j)=>if(bo (j<n))then(AE (BR n c c2 j) (data,0,(bs.wrap (2*j)))).bind fun C=>if(bo ((bs.wrap (C.2+j))<n))then(BW C.1 C.2 (bs.wrap (C.2+j)) n c c2).bind fun I=>b9 (.inl (I,(bs.wrap (j*2))))else b9 (.inl (C.1,(bs.wrap (j*2))))else b9 (.inr data)
def BI(data:List Int)(n:Int)(C:AG)(j:List AJ):Option (List Int) :=(AE (Co n C j 20) (data,0,20)).bind fun J=>(BF J.1 J.2 n C j).bind fun R=>(AE (BS n C j) (R,20)).bind fun I=>ck (I.length==data.length)<|some I
def BG(x:List Int)(C:AG)(j:List AJ):Option (List Int) :=(BI x (x.length:Int) C j).bind fun I=>ck (I.length==x.length)<|some I
def Cu(n:Int)(C:AG)(j:List AJ):Option (List Int) :=(Bk n).bind fun J=>(BG J C j).bind fun I=>b9 I
def Hr(I:AG)(j:List AJ):Option (List Int) :=(Cu (j.length:Int) I j).bind fun C=>b9 C
def CC(C:List AJ)(j:List Int)(J:Int):(Int×Int)->Option ((Int×Int)⊕Int)
 |(length,t16)=>if(bo (t16<J))then ck (AS t16 j.length)<|ck (nz (j.length:Int))<|ck (AS ((bs.wrap (t16+1)).tmod (j.length:Int)) j.length)<|ck (AS (j.getD t16.toNat a') C.length)<|ck (AS (j.getD ((bs.wrap (t16+1)).tmod (j.length:Int)).toNat a') C.length)<|(EU (bs.wrap (((C.getD (j.getD t16.toNat a').toNat a').Mag)-((C.getD (j.getD ((bs.wrap (t16+1)).tmod (j.length:Int)).toNat a').toNat a').Mag)))).bind fun I=>b9 (.inl ((bs.wrap (length+I)),(bs.wrap (t16+1))))else b9 (.inr length)
def Dd(j:List AJ)(C:Int):Option Int :=(Hr (AG.mk 0 C) j).bind fun I=>(AE (CC j I (I.length:Int)) (0,0)).bind fun J=>b9 J
def EP(j:List AJ)(t9:List Int)(t10:Int):((List Int)×Int)->Option (((List Int)×Int)⊕(List Int))
 |(out,t11)=>if(bo (t11<t10))then ck (AS t11 t9.length)<|(Dd j (t9.getD t11.toNat a')).bind fun C=>ck (Dg (out.length+([C]:List Int).length) 8)<|some (.inl ((out++([C]:List Int)),(bs.wrap (t11+1))))else b9 (.inr out)
def FU(C:List AJ)(j:List Int):Option (List Int) :=(AE (EP C j (j.length:Int)) (([]:List Int),0)).bind fun I=>b9 I
def Cr(s_:List Int)(v j:Int):Int->Option (Int⊕(Unit⊕Int))
 |t8=>if(bo (t8<j))then ck (AS t8 s_.length)<|if(v==(s_.getD t8.toNat a'))then b9 (.inr (.inr t8))else b9 (.inl (bs.wrap (t8+1)))else b9 (.inr (.inl ()))
def DU(s_:List Int)(v:Int):Option Int :=(AE (Cr s_ v (s_.length:Int)) 0).bind fun C=>match C with
 |.inl I=>b9 (-1)
 |.inr j=>b9 j
def Lc(C:List AJ)(j:List Int):Option Int :=(FU C j).bind fun J=>(jE J).bind fun R=>(DU J R).bind fun I=>ck (AS I j.length)<|some (j.getD I.toNat a')
def GS(j:List AJ)(x:CI):Option (Int×Int) :=(KC j x 3).bind fun C=>if(!(C==0))then b9 (0,C)else(FG x).bind fun J=>(Lc j J).bind fun I=>b9 (I,0)
def JT(j:List AJ)(C:Int):((List Int)×Int)->Option (((List Int)×Int)⊕(List Int))
 |(out,t9)=>if(bo (t9<C))then ck (AS t9 j.length)<|ck (Dg (out.length+([(j.getD t9.toNat a').Mag]:List Int).length) 8)<|some (.inl ((out++([(j.getD t9.toNat a').Mag]:List Int)),(bs.wrap (t9+1))))else b9 (.inr out)
def ME (j:List AJ):Option (List Int) :=(AE (JT j (j.length:Int)) (([]:List Int),0)).bind fun C=>b9 C
def FZ (j:List AJ):Option (Int×Int) :=(Ec j).bind fun R=>if(!R)then b9 (0,1)else if((j.length:Int)==0)then b9 (0,3)else(ME j).bind fun C=>(ud C).bind fun J=>(jE C).bind fun I=>b9 ((bs.wrap (J-I)),0)
def Ga (C:AG):Option Bool :=(EV C.Epoch).bind fun j=>ck (!j||(EB C.Period 1 1000000).isSome)<|some (j&&((EB C.Period 1 1000000).getD a'))
def Hs(J:AG)(j:List AJ):Option ((List Int)×Int) :=(Ga J).bind fun C=>ck (!(!(!C))||(Ec j).isSome)<|if((!C)||(!((Ec j).getD a')))then b9 (([]:List Int),1)else(Hr J j).bind fun I=>b9 (I,0)
def Hq(C:List Int)(I:Int):((List L8)×Int)->Option (((List L8)×Int)⊕(List L8))
 |(words,t9)=>if(bo (t9<I))then ck (AS t9 C.length)<|(Av (C.getD t9.toNat a')).bind fun j=>ck (Dg (words.length+([j]:List L8).length) 16)<|some (.inl ((words++([j]:List L8)),(bs.wrap (t9+1))))else b9 (.inr words)
def MG (j:List Int):Option L8 :=(AE (Hq j (j.length:Int)) (([]:List L8),0)).bind fun I=>(YT I ([32]:L8)).bind fun C=>b9 C
def Iq (j:List L8):Option Int :=some (j.length:Int)
def Gs (j:List L8):Option (List L8) :=(Iq j).bind fun I=>(Av I).bind fun C=>ck (CM ([111,107,32]:L8).length C.length)<|ck (Dg (j.length+([(([111,107,32]:L8)++C)]:List L8).length) 16)<|some (j++([(([111,107,32]:L8)++C)]:List L8))
def Dn(I:List AJ)(J:Int):((List L8)×Int)->Option (((List L8)×Int)⊕(List L8))
 |(lines,t102)=>if(bo (t102<J))then ck (AS t102 I.length)<|(Av ((I.getD t102.toNat a').Time)).bind fun j=>ck (CM j.length ([32]:L8).length)<|(Df ((I.getD t102.toNat a').Mag)).bind fun C=>ck (CM (j++([32]:L8)).length C.length)<|ck (Dg (lines.length+([((j++([32]:L8))++C)]:List L8).length) 16)<|some (.inl ((lines++([((j++([32]:L8))++C)]:List L8)),(bs.wrap (t102+1))))else b9 (.inr lines)
def BX(d:Ad)(c:Cm):Option ((List L8)×Int) :=ck (AS 1 c.words_.length)<|(Jp d.Estimates (c.words_.getD 1 a')).bind fun j=>if(!(j.2==0))then b9 (([]:List L8),j.2)else ck (AS 0 c.words_.length)<|if((c.words_.getD 0 a')==([97,109,112]:L8))then(FZ j.1).bind fun ab=>(Av ab.1).bind fun au=>(DY au ab.2).bind fun aa=>b9 (aa.1,aa.2)else if((c.words_.getD 0 a')==([98,101,115,116]:L8))then ck (AS 2 c.numbers_.length)<|ck (AS 3 c.numbers_.length)<|ck (AS 4 c.numbers_.length)<|(GS j.1 (CI.mk (c.numbers_.getD 2 a') (c.numbers_.getD 3 a') (c.numbers_.getD 4 a'))).bind fun U=>(Av U.1).bind fun ao=>(DY ao U.2).bind fun R=>b9 (R.1,R.2)else if((c.words_.getD 0 a')==([102,111,108,100]:L8))then ck (AS 2 c.numbers_.length)<|(Hs (AG.mk 0 (c.numbers_.getD 2 a')) j.1).bind fun C=>if((C.1.length:Int)==0)then(DY ([45]:L8) C.2).bind fun J=>b9 (J.1,J.2)else(MG C.1).bind fun aj=>(DY aj C.2).bind fun I=>b9 (I.1,I.2)else(AE (Dn j.1 (j.1.length:Int)) (([]:List L8),0)).bind fun ae=>(Gs ae).bind fun ad=>b9 (ad,0)
def Ee (j:AA):Option L8 :=(Df j.Mag).bind fun C=>if j.Fainter then ck (CM ([60]:L8).length C.length)<|(Av j.Time).bind fun U=>(YT ([U,j.Star,j.Observer,(([60]:L8)++C)]:List L8) ([32]:L8)).bind fun R=>b9 R else(Av j.Time).bind fun J=>(YT ([J,j.Star,j.Observer,C]:List L8) ([32]:L8)).bind fun I=>b9 I
def FW (j:List (List Int)):Option Int :=some (j.length:Int)
def CE(d:Ad)(J:Int)(C:List AU)(I:Int):((List L8)×Int)->Option (((List L8)×Int)⊕(List L8))
 |(lines,t94)=>if(bo (t94<I))then ck (AS t94 C.length)<|(Ei (C.getD t94.toNat a')).bind fun j=>ck (Dg (lines.length+([j]:List L8).length) 16)<|some (.inl ((lines++([j]:List L8)),(bs.wrap (t94+1))))else b9 (.inr lines)
def Ab(d:Ad)(c:Cm):Option ((List L8)×Int×Ad) :=ck (AS 0 c.words_.length)<|if((c.words_.getD 0 a')==([115,116,97,114]:L8))then(DE d c).bind fun aj=>b9 (aj.1,aj.2.1,aj.2.2)else if((c.words_.getD 0 a')==([101,115,116]:L8))then(DE d c).bind fun ae=>b9 (ae.1,ae.2.1,ae.2.2)else if((c.words_.getD 0 a')==([101,110,116,101,114]:L8))then(DE d c).bind fun ad=>b9 (ad.1,ad.2.1,ad.2.2)else if((c.words_.getD 0 a')==([99,117,114,118,101]:L8))then(BX d c).bind fun ao=>b9 (ao.1,ao.2,d)else if((c.words_.getD 0 a')==([97,109,112]:L8))then(BX d c).bind fun ab=>b9 (ab.1,ab.2,d)else if((c.words_.getD 0 a')==([98,101,115,116]:L8))then(BX d c).bind fun aa=>b9 (aa.1,aa.2,d)else if((c.words_.getD 0 a')==([102,111,108,100]:L8))then(BX d c).bind fun U=>b9 (U.1,U.2,d)else if((c.words_.getD 0 a')==([108,97,115,116]:L8))then ck (AS 1 c.words_.length)<|(Gt d.Estimates (c.words_.getD 1 a')).bind fun R=>(Ee R.1).bind fun a1=>(DY a1 R.2).bind fun J=>b9 (J.1,J.2,d)else if((c.words_.getD 0 a')==([112,97,105,114,115]:L8))then ck (AS 1 c.numbers_.length)<|ck (AS 2 c.numbers_.length)<|(CU d.Estimates (c.numbers_.getD 1 a') (c.numbers_.getD 2 a')).bind fun I=>(FW I.1).bind fun az=>(Av az).bind fun ay=>(DY ay I.2).bind fun C=>b9 (C.1,C.2,d)else(EY d.Log).bind fun j=>(AE (CE d j.2 j.1 (j.1.length:Int)) (([]:List L8),0)).bind fun ax=>(Gs ax).bind fun au=>b9 (au,j.2,d)
def FF(d:Ad)(line:L8):Option (Ad×(List L8)×Bool) :=(Bt d.Stars).bind fun I=>(BZ d.Estimates).bind fun C=>(CG line).bind fun R=>if(!R.2)then b9 ((Ad.mk ([]:List Star) ([]:List AA) []),([]:List L8),bI)else if(!R.1.wrong_)then(Ab (Ad.mk I C d.Log) R.1).bind fun j=>if(!(j.2.1==0))then(Dt j.2.1).bind fun U=>ck (CM ([101,114,114,111,114,32]:L8).length U.length)<|some ((Ad.mk I C d.Log),([(([101,114,114,111,114,32]:L8)++U)]:List L8),bN)else b9 (j.2.2,j.1,bN)else if(!(7==0))then(Dt 7).bind fun J=>ck (CM ([101,114,114,111,114,32]:L8).length J.length)<|some ((Ad.mk I C d.Log),([(([101,114,114,111,114,32]:L8)++J)]:List L8),bN)else b9 ((Ad.mk I C d.Log),([]:List L8),bN)
def LV:List L8->L8
 |[]=>[]
 |x::r=>x++10::LV r
def EW:Nat->L8->Ad->L8->Option L8
 |0,text,_,acc=>if text=[]then b9 acc else ck (bo (acc.length+11<=1099511627776))<|some (acc++[101,114,114,111,114,32,102,117,108,108,10])
 |k+1,text,d,acc=>if text=[]then b9 acc else(fY text [10]).bind fun y=>(FF d y.1).bind fun z=>ck (bo ((acc++LV (if z.2.2=bN then z.2.1 else [[63]])).length<=1099511627776)&&bo (z.2.1.length<=1099511627776))<|EW k y.2.1 (if z.2.2=bN then z.1 else d) (acc++LV (if z.2.2=bN then z.2.1 else [[63]]))
def LL (j:L8):Option L8 :=MY.bind fun d=>EW 60 j d []
def Gn (c:UInt8):Option Bool :=some ((bo (97<=(c.toNat:Int)))&&(bo ((c.toNat:Int)<=122)))
def Dq (c:UInt8):Option Bool :=some ((bo (48<=(c.toNat:Int)))&&(bo ((c.toNat:Int)<=57)))
def JO (s_:L8):Int->Option (Int⊕(Unit⊕Bool))
 |i=>if(bo (i<(s_.length:Int)))then ck (AS i s_.length)<|(Gn (s_.getD i.toNat 0)).bind fun j=>ck (!(!j)||(Dq (s_.getD i.toNat 0)).isSome)<|if(((!j)&&(!((Dq (s_.getD i.toNat 0)).getD a')))&&(!(((s_.getD i.toNat 0).toNat:Int)==45)))then b9 (.inr (.inr bI))else b9 (.inl (bs.wrap (i+1)))else b9 (.inr (.inl ()))
def CO (s_:L8):Option Bool :=ck (!(!((s_==([]:L8))||(bo (12<(s_.length:Int)))))||AS 0 s_.length)<|ck (!(!((s_==([]:L8))||(bo (12<(s_.length:Int)))))||(Gn (s_.getD 0 0)).isSome)<|if(((s_==([]:L8))||(bo (12<(s_.length:Int))))||(!((Gn (s_.getD 0 0)).getD a')))then b9 bI else(AE (JO s_) 0).bind fun C=>match C with
  |.inl I=>b9 bN
  |.inr j=>b9 j
def Bu(n low j:Int):Option Bool :=some ((bo (low<=n))&&(bo (n<=j)))
def Es (n:Int):Option Bool :=(Bu n 0 86399).bind fun j=>b9 j
def Ih (n:Int):Option Bool :=(Bu n (-324000) 324000).bind fun j=>b9 j
def Bv (m:Int):Option Bool :=(Bu m (-2000) 20000).bind fun j=>b9 j
def Kg (x:Star):Option Bool :=(CO x.Name).bind fun j=>ck (!j||(Es x.Ascend).isSome)<|ck (!(j&&((Es x.Ascend).getD a'))||(Ih x.Decl).isSome)<|ck (!((j&&((Es x.Ascend).getD a'))&&((Ih x.Decl).getD a'))||(Bv x.Bright).isSome)<|ck (!(((j&&((Es x.Ascend).getD a'))&&((Ih x.Decl).getD a'))&&((Bv x.Bright).getD a'))||(Bv x.Faint).isSome)<|some (((((j&&((Es x.Ascend).getD a'))&&((Ih x.Decl).getD a'))&&((Bv x.Bright).getD a'))&&((Bv x.Faint).getD a'))&&(bo (x.Bright<=x.Faint)))
def JA (j:List Star):Int->Option (Int⊕(Unit⊕Bool))
 |i=>if(bo (i<(j.length:Int)))then ck (AS i j.length)<|(Kg (j.getD i.toNat a')).bind fun C=>ck (!((!(!C))&&(bo (0<i)))||AS (bs.wrap (i-1)) j.length)<|if((!C)||((bo (0<i))&&(!(cw ((j.getD (bs.wrap (i-1)).toNat a').Name) ((j.getD i.toNat a').Name)))))then b9 (.inr (.inr bI))else b9 (.inl (bs.wrap (i+1)))else b9 (.inr (.inl ()))
def Lm (j:List Star):Option Bool :=(AE (JA j) 0).bind fun I=>match I with
 |.inl J=>b9 (bo ((j.length:Int)<=60))
 |.inr C=>b9 C
def IQ(j:List Star)(C:L8):Int->Option (Int⊕(Unit⊕Int))
 |i=>if(bo (i<(j.length:Int)))then ck (AS i j.length)<|if(((j.getD i.toNat a').Name)==C)then b9 (.inr (.inr i))else b9 (.inl (bs.wrap (i+1)))else b9 (.inr (.inl ()))
def Fh(I:List Star)(C:L8):Option Int :=(AE (IQ I C) 0).bind fun J=>match J with
 |.inl R=>b9 (-1)
 |.inr j=>b9 j
def IS(j:List Star)(x:Star):Int->Option (Int⊕Int)
 |k=>ck (!(bo (0<k))||AS (bs.wrap (k-1)) j.length)<|if((bo (0<k))&&(!(cw ((j.getD (bs.wrap (k-1)).toNat a').Name) x.Name||((j.getD (bs.wrap (k-1)).toNat a').Name)==x.Name)))then b9 (.inl (bs.wrap (k-1)))else b9 (.inr k)
def Ge(j:List Star)(x:Star):Option ((List Star)×Int) :=(Lm j).bind fun R=>if(!R)then b9 (([]:List Star),1)else(Kg x).bind fun J=>if(!J)then b9 (([]:List Star),2)else(Fh j x.Name).bind fun I=>if(bo (0<=I))then b9 (([]:List Star),4)else if(bo (60<=(j.length:Int)))then b9 (([]:List Star),5)else(AE (IS j x) (j.length:Int)).bind fun C=>ck (Ja 0 C j.length)<|ck (Dg (([]:List Star).length+(cut j 0 C).length) 48)<|ck (Dg ((([]:List Star)++(cut j 0 C)).length+([x]:List Star).length) 48)<|ck (Ja C (j.length:Int) j.length)<|ck (Dg (((([]:List Star)++(cut j 0 C))++([x]:List Star)).length+(cut j C (j.length:Int)).length) 48)<|some ((((([]:List Star)++(cut j 0 C))++([x]:List Star))++(cut j C (j.length:Int))),0)
def Gc (n:Int):Option Bool :=(Bu n 0 10000000).bind fun j=>b9 j
def Kf (j:AA):Option Bool :=(Gc j.Time).bind fun C=>ck (!C||(CO j.Star).isSome)<|ck (!(C&&((CO j.Star).getD a'))||(CO j.Observer).isSome)<|ck (!((C&&((CO j.Star).getD a'))&&((CO j.Observer).getD a'))||(Bv j.Mag).isSome)<|some (((C&&((CO j.Star).getD a'))&&((CO j.Observer).getD a'))&&((Bv j.Mag).getD a'))
def DQ(a b:AA):Option Bool :=if(!(a.Time==b.Time))then b9 (bo (a.Time<b.Time))else if(!(a.Star==b.Star))then b9 (cw a.Star b.Star)else b9 (cw a.Observer b.Observer)
def Iz (j:List AA):Int->Option (Int⊕(Unit⊕Bool))
 |i=>if(bo (i<(j.length:Int)))then ck (AS i j.length)<|(Kf (j.getD i.toNat a')).bind fun C=>ck (!((!(!C))&&(bo (0<i)))||AS (bs.wrap (i-1)) j.length)<|ck (!((!(!C))&&(bo (0<i)))||(DQ (j.getD (bs.wrap (i-1)).toNat a') (j.getD i.toNat a')).isSome)<|if((!C)||((bo (0<i))&&(!((DQ (j.getD (bs.wrap (i-1)).toNat a') (j.getD i.toNat a')).getD a'))))then b9 (.inr (.inr bI))else b9 (.inl (bs.wrap (i+1)))else b9 (.inr (.inl ()))
def Hj (j:List AA):Option Bool :=(AE (Iz j) 0).bind fun I=>match I with
 |.inl J=>b9 (bo ((j.length:Int)<=100))
 |.inr C=>b9 C
def IP(j:List AA)(I:AA):Int->Option (Int⊕(Unit⊕Int))
 |i=>if(bo (i<(j.length:Int)))then ck (AS i j.length)<|(DQ (j.getD i.toNat a') I).bind fun C=>ck (!(!C)||(DQ I (j.getD i.toNat a')).isSome)<|if((!C)&&(!((DQ I (j.getD i.toNat a')).getD a')))then b9 (.inr (.inr i))else b9 (.inl (bs.wrap (i+1)))else b9 (.inr (.inl ()))
def LB(C:List AA)(R:AA):Option Int :=(AE (IP C R) 0).bind fun I=>match I with
 |.inl J=>b9 (-1)
 |.inr j=>b9 j
def JN(j:List AA)(C:AA):Int->Option (Int⊕Int)
 |k=>ck (!(bo (0<k))||AS (bs.wrap (k-1)) j.length)<|ck (!(bo (0<k))||(DQ C (j.getD (bs.wrap (k-1)).toNat a')).isSome)<|if((bo (0<k))&&((DQ C (j.getD (bs.wrap (k-1)).toNat a')).getD a'))then b9 (.inl (bs.wrap (k-1)))else b9 (.inr k)
def NU(j:List AA)(I:AA):Option (List AA) :=(AE (JN j I) (j.length:Int)).bind fun C=>ck (Ja 0 C j.length)<|ck (Dg (([]:List AA).length+(cut j 0 C).length) 56)<|ck (Dg ((([]:List AA)++(cut j 0 C)).length+([I]:List AA).length) 56)<|ck (Ja C (j.length:Int) j.length)<|ck (Dg (((([]:List AA)++(cut j 0 C))++([I]:List AA)).length+(cut j C (j.length:Int)).length) 56)<|some (((([]:List AA)++(cut j 0 C))++([I]:List AA))++(cut j C (j.length:Int)))
def Dx(j:List AA)(U:AA):Option ((List AA)×Int) :=(Hj j).bind fun R=>if(!R)then b9 (([]:List AA),1)else(Kf U).bind fun J=>if(!J)then b9 (([]:List AA),2)else(LB j U).bind fun I=>if(bo (0<=I))then b9 (([]:List AA),4)else if(bo (100<=(j.length:Int)))then b9 (([]:List AA),5)else(NU j U).bind fun C=>b9 (C,0)
def JC(C j:Int):Option Int :=ck (nz j)<|if(bo ((C.tmod j)<0))then b9 (bs.wrap ((bs.wrap (C.tdiv j))-1))else b9 (bs.wrap (C.tdiv j))
def KJ(I j:Int):Option Int :=(JC (bs.wrap ((bs.wrap (2*I))+j)) (bs.wrap (2*j))).bind fun C=>b9 C
def Gl(j:List AA)(C:L8)(out:List AJ)(i:Int):(Int×Int×Int)->Option ((Int×Int×Int)⊕(Int×Int×Int))
 |(sum,n,k)=>ck (!(bo (k<(j.length:Int)))||AS k j.length)<|ck (!(bo (k<(j.length:Int)))||AS i j.length)<|if((bo (k<(j.length:Int)))&&(((j.getD k.toNat a').Time)==((j.getD i.toNat a').Time)))then ck (AS k j.length)<|if((((j.getD k.toNat a').Star)==C)&&(!((j.getD k.toNat a').Fainter)))then b9 (.inl ((bs.wrap (sum+((j.getD k.toNat a').Mag))),(bs.wrap (n+1)),(bs.wrap (k+1))))else b9 (.inl (sum,n,(bs.wrap (k+1))))else b9 (.inr (sum,n,k))
def Iy(j:List AA)(J:L8):((List AJ)×Int)->Option (((List AJ)×Int)⊕(List AJ))
 |(out,i)=>if(bo (i<(j.length:Int)))then(AE (Gl j J out i) (0,0,i)).bind fun C=>if(bo (0<C.2.1))then ck (AS i j.length)<|(KJ C.1 C.2.1).bind fun I=>ck (Dg (out.length+([(AJ.mk ((j.getD i.toNat a').Time) I)]:List AJ).length) 16)<|some (.inl ((out++([(AJ.mk ((j.getD i.toNat a').Time) I)]:List AJ)),C.2.2))else b9 (.inl (out,C.2.2))else b9 (.inr out)
def OQ(I:List AA)(C:L8):Option (List AJ) :=(AE (Iy I C) (([]:List AJ),0)).bind fun j=>b9 j
def Gd(C:List AA)(j:L8):Option ((List AJ)×Int) :=(Hj C).bind fun R=>if(!R)then b9 (([]:List AJ),1)else(CO j).bind fun J=>if(!J)then b9 (([]:List AJ),2)else(OQ C j).bind fun I=>b9 (I,0)
def ND (j:List AJ):Int->Option (Int⊕(Unit⊕Bool))
 |i=>if(bo (i<(j.length:Int)))then ck (AS i j.length)<|(Gc ((j.getD i.toNat a').Time)).bind fun C=>ck (!(!(!C))||(Bv ((j.getD i.toNat a').Mag)).isSome)<|ck (!((!((!C)||(!((Bv ((j.getD i.toNat a').Mag)).getD a'))))&&(bo (0<i)))||AS (bs.wrap (i-1)) j.length)<|if(((!C)||(!((Bv ((j.getD i.toNat a').Mag)).getD a')))||((bo (0<i))&&(bo (((j.getD i.toNat a').Time)<=((j.getD (bs.wrap (i-1)).toNat a').Time)))))then b9 (.inr (.inr bI))else b9 (.inl (bs.wrap (i+1)))else b9 (.inr (.inl ()))
def Jn (j:List AJ):Option Bool :=(AE (ND j) 0).bind fun I=>match I with
 |.inl J=>b9 (bo ((j.length:Int)<=100))
 |.inr C=>b9 C
def Lx(a b:Int):Option Int :=if(bo (a<b))then b9 a else b9 b
def Ly(a b:Int):Option Int :=if(bo (b<a))then b9 a else b9 b
def FC (j:List AJ):(Int×Int×Int)->Option ((Int×Int×Int)⊕(Int×Int))
 |(low,high,i)=>if(bo (i<(j.length:Int)))then ck (AS i j.length)<|(Lx low ((j.getD i.toNat a').Mag)).bind fun I=>(Ly high ((j.getD i.toNat a').Mag)).bind fun C=>b9 (.inl (I,C,(bs.wrap (i+1))))else b9 (.inr (low,high))
def DB (j:List AJ):Option (Int×Int) :=(Jn j).bind fun I=>if(!I)then b9 (0,1)else if((j.length:Int)==0)then b9 (0,3)else ck (AS 0 j.length)<|(AE (FC j) ((j.getD 0 a').Mag,(j.getD 0 a').Mag,1)).bind fun C=>b9 ((bs.wrap (C.2-C.1)),0)
def Fi (n:Int):Option Int :=if(bo (n<0))then b9 (bs.wrap (0-n))else b9 n
def LY(I:AG)(j:Int):Option Int :=(JC (bs.wrap (j-I.Epoch)) I.Period).bind fun C=>b9 C
def El(I:AG)(j:Int):Option Int :=(LY I j).bind fun C=>b9 (bs.wrap ((bs.wrap (j-I.Epoch))-(bs.wrap (C*I.Period))))
def Lw (j:List Int):Option (List Int) :=ck (Dg (([]:List Int).length+j.length) 8)<|some (([]:List Int)++j)
def GK(j:List AJ)(C:AG)(out:List Int)(i:Int):Int->Option (Int⊕Int)
 |k=>ck (!(bo (0<k))||AS (bs.wrap (k-1)) out.length)<|ck (!(bo (0<k))||AS (out.getD (bs.wrap (k-1)).toNat a') j.length)<|ck (!(bo (0<k))||(El C ((j.getD (out.getD (bs.wrap (k-1)).toNat a').toNat a').Time)).isSome)<|ck (!(bo (0<k))||AS i j.length)<|ck (!(bo (0<k))||(El C ((j.getD i.toNat a').Time)).isSome)<|if((bo (0<k))&&(bo (((El C ((j.getD i.toNat a').Time)).getD a')<((El C ((j.getD (out.getD (bs.wrap (k-1)).toNat a').toNat a').Time)).getD a'))))then b9 (.inl (bs.wrap (k-1)))else b9 (.inr k)
def GL(I:List AJ)(J:AG):((List Int)×Int)->Option (((List Int)×Int)⊕(List Int))
 |(out,i)=>if(bo (i<(I.length:Int)))then(AE (GK I J out i) (out.length:Int)).bind fun j=>ck (Ja 0 j out.length)<|(Lw (cut out 0 j)).bind fun C=>ck (Dg (C.length+([i]:List Int).length) 8)<|ck (Ja j (out.length:Int) out.length)<|ck (Dg ((C++([i]:List Int)).length+(cut out j (out.length:Int)).length) 8)<|some (.inl (((C++([i]:List Int))++(cut out j (out.length:Int))),(bs.wrap (i+1))))else b9 (.inr out)
def Ig(I:AG)(j:List AJ):Option (List Int) :=(AE (GL j I) (([]:List Int),0)).bind fun C=>b9 C
def Er(C:List AJ)(j:List Int):(Int×Int)->Option ((Int×Int)⊕Int)
 |(sum,i)=>if(bo (i<(j.length:Int)))then ck (nz (j.length:Int))<|ck (AS ((bs.wrap (i+1)).tmod (j.length:Int)) j.length)<|ck (AS (j.getD ((bs.wrap (i+1)).tmod (j.length:Int)).toNat a') C.length)<|ck (AS i j.length)<|ck (AS (j.getD i.toNat a') C.length)<|(Fi (bs.wrap (((C.getD (j.getD ((bs.wrap (i+1)).tmod (j.length:Int)).toNat a').toNat a').Mag)-((C.getD (j.getD i.toNat a').toNat a').Mag)))).bind fun I=>b9 (.inl ((bs.wrap (sum+I)),(bs.wrap (i+1))))else b9 (.inr sum)
def Fr(j:List AJ)(C:Int):Option Int :=(Ig (AG.mk 0 C) j).bind fun J=>(AE (Er j J) (0,0)).bind fun I=>b9 I
def JM(j:List AJ)(x:CI):((List Int)×Int)->Option (((List Int)×Int)⊕(List Int))
 |(out,p)=>if(bo (p<=x.To))then(Fr j p).bind fun C=>ck (Dg (out.length+([C]:List Int).length) 8)<|some (.inl ((out++([C]:List Int)),(bs.wrap (p+x.Step))))else b9 (.inr out)
def Lv(j:List AJ)(x:CI):Option (List Int) :=(AE (JM j x) (([]:List Int),x.From)).bind fun C=>b9 C
def GJ(C:List Int)(I J:Int):(Int×Int)->Option ((Int×Int)⊕Int)
 |(j,k)=>if(bo (k<(C.length:Int)))then if((bo (I<=k))&&(bo (k<=J)))then b9 (.inl (j,(bs.wrap (k+1))))else ck (!(!(bo (j<0)))||AS k C.length)<|ck (!(!(bo (j<0)))||AS j C.length)<|if((bo (j<0))||(bo ((C.getD k.toNat a')<(C.getD j.toNat a'))))then b9 (.inl (k,(bs.wrap (k+1))))else b9 (.inl (j,(bs.wrap (k+1))))else b9 (.inr j)
def LA(J:List Int)(j I:Int):Option Int :=(AE (GJ J j I) ((-1),0)).bind fun C=>b9 C
def Di (n:Int):Option Bool :=(Bu n 1 1000000).bind fun j=>b9 j
def KI (x:CI):Option Int :=ck (nz x.Step)<|some (bs.wrap ((bs.wrap ((bs.wrap (x.To-x.From)).tdiv x.Step))+1))
def Ll (x:CI):Option Bool :=(Di x.From).bind fun j=>ck (!j||(Bu x.To x.From 1000000).isSome)<|ck (!(j&&((Bu x.To x.From 1000000).getD a'))||(Di x.Step).isSome)<|ck (!((j&&((Bu x.To x.From 1000000).getD a'))&&((Di x.Step).getD a'))||(KI x).isSome)<|some (((j&&((Bu x.To x.From 1000000).getD a'))&&((Di x.Step).getD a'))&&(bo (((KI x).getD a')<=500)))
def MO(j:List AJ)(x:CI):Option Int :=(Jn j).bind fun C=>ck (!(!(!C))||(Ll x).isSome)<|if((!C)||(!((Ll x).getD a')))then b9 1 else if(bo (40<(j.length:Int)))then b9 5 else b9 0
def LX(j:List AJ)(x:CI):Option Int :=(MO j x).bind fun C=>if((C==0)&&(bo ((j.length:Int)<3)))then b9 3 else b9 C
def Cz(j:List AJ)(x:CI):Option (Int×Int) :=(LX j x).bind fun C=>if(!(C==0))then b9 (0,C)else(Lv j x).bind fun J=>(LA J 0 (-1)).bind fun I=>b9 ((bs.wrap (x.From+(bs.wrap (x.Step*I)))),0)
def OO (C:AG):Option Bool :=(Gc C.Epoch).bind fun j=>ck (!j||(Di C.Period).isSome)<|some (j&&((Di C.Period).getD a'))
def Et(J:AG)(j:List AJ):Option ((List Int)×Int) :=(OO J).bind fun C=>ck (!(!(!C))||(Jn j).isSome)<|if((!C)||(!((Jn j).getD a')))then b9 (([]:List Int),1)else(Ig J j).bind fun I=>b9 (I,0)
def Hk(j:List AA)(C:L8)(I:AA):Int->Option (Int⊕(Unit⊕(AA×Int)))
 |i=>if(bo (0<=i))then ck (AS i j.length)<|if(((j.getD i.toNat a').Star)==C)then b9 (.inr (.inr ((j.getD i.toNat a'),0)))else b9 (.inl (bs.wrap (i-1)))else b9 (.inr (.inl ()))
def Gp(j:List AA)(I:L8):Option (AA×Int) :=(Hj j).bind fun U=>if(!U)then b9 ((AA.mk 0 [] [] 0 bI),1)else(CO I).bind fun R=>if(!R)then b9 ((AA.mk 0 [] [] 0 bI),2)else(AE (Hk j I (AA.mk 0 [] [] 0 bI)) (bs.wrap ((j.length:Int)-1))).bind fun J=>match J with
   |.inl aa=>b9 ((AA.mk 0 [] [] 0 bI),3)
   |.inr C=>b9 (C.1,C.2)
def GM(a b:AA)(j:Int):Option Bool :=if(a.Fainter&&b.Fainter)then b9 bI else if a.Fainter then b9 (bo ((bs.wrap (b.Mag+j))<a.Mag))else if b.Fainter then b9 (bo ((bs.wrap (a.Mag+j))<b.Mag))else(Fi (bs.wrap (a.Mag-b.Mag))).bind fun C=>b9 (bo (j<C))
def Cj(j:List AA)(C I i:Int):((List (List Int))×Int)->Option (((List (List Int))×Int)⊕(List (List Int)))
 |(out,k)=>if(bo (k<(j.length:Int)))then ck (AS i j.length)<|ck (AS k j.length)<|ck (!((((j.getD i.toNat a').Star)==((j.getD k.toNat a').Star))&&(bo ((bs.wrap (((j.getD k.toNat a').Time)-((j.getD i.toNat a').Time)))<=C)))||(GM (j.getD i.toNat a') (j.getD k.toNat a') I).isSome)<|if(((((j.getD i.toNat a').Star)==((j.getD k.toNat a').Star))&&(bo ((bs.wrap (((j.getD k.toNat a').Time)-((j.getD i.toNat a').Time)))<=C)))&&((GM (j.getD i.toNat a') (j.getD k.toNat a') I).getD a'))then ck (Dg (out.length+([([i,k]:List Int)]:List (List Int)).length) 24)<|some (.inl ((out++([([i,k]:List Int)]:List (List Int))),(bs.wrap (k+1))))else b9 (.inl (out,(bs.wrap (k+1))))else b9 (.inr out)
def Ck(j:List AA)(C J:Int):((List (List Int))×Int)->Option (((List (List Int))×Int)⊕(List (List Int)))
 |(out,i)=>if(bo (i<(j.length:Int)))then(AE (Cj j C J i) (out,(bs.wrap (i+1)))).bind fun I=>b9 (.inl (I,(bs.wrap (i+1))))else b9 (.inr out)
def Cw(C:List AA)(j I:Int):Option ((List (List Int))×Int) :=(Hj C).bind fun U=>if(!U)then b9 (([]:List (List Int)),1)else(Bu j 0 100000).bind fun J=>ck (!(!(!J))||(Bu I 1 20000).isSome)<|if((!J)||(!((Bu I 1 20000).getD a')))then b9 (([]:List (List Int)),2)else(AE (Ck C j I) (([]:List (List Int)),0)).bind fun R=>b9 (R,0)
def Ff (r:Hx):Option Int :=if((r.list_.length:Int)==0)then b9 0 else ck (AS (bs.wrap ((r.list_.length:Int)-1)) r.list_.length)<|some ((r.list_.getD (bs.wrap ((r.list_.length:Int)-1)).toNat a').Day)
def ES (n:Int):(L8×Int)->Option ((L8×Int)⊕L8)
 |(out,k)=>if(!(k==0))then ck (nz 10)<|if(bo ((k.tmod 10)<0))then ck (Dg (([(mm (bX.wrap (bs.wrap (48+(bs.wrap (0-(k.tmod 10)))))))]:L8).length+out.length) 1)<|some (.inl ((([(mm (bX.wrap (bs.wrap (48+(bs.wrap (0-(k.tmod 10)))))))]:L8)++out),(bs.wrap (k.tdiv 10))))else ck (Dg (([(mm (bX.wrap (bs.wrap (48+(k.tmod 10)))))]:L8).length+out.length) 1)<|some (.inl ((([(mm (bX.wrap (bs.wrap (48+(k.tmod 10)))))]:L8)++out),(bs.wrap (k.tdiv 10))))else b9 (.inr out)
def BE (n:Int):Option L8 :=(AE (ES n) (([]:L8),n)).bind fun j=>if((j.length:Int)==0)then b9 ([48]:L8)else if(bo (n<0))then ck (CM ([45]:L8).length j.length)<|some (([45]:L8)++j)else b9 j
def EQ (C:AU):Option L8 :=(BE C.Day).bind fun j=>ck (CM j.length ([32]:L8).length)<|ck (CM (j++([32]:L8)).length C.What.length)<|ck (CM ((j++([32]:L8))++C.What).length ([32]:L8).length)<|(BE C.Value).bind fun I=>ck (CM (((j++([32]:L8))++C.What)++([32]:L8)).length I.length)<|some ((((j++([32]:L8))++C.What)++([32]:L8))++I)
def Ef (j:L8):(Int×Int)->Option ((Int×Int)⊕Int)
 |(sum,i)=>if(bo (i<(j.length:Int)))then ck (AS i j.length)<|ck (nz 65521)<|some (.inl (((bs.wrap ((bs.wrap (31*sum))+((j.getD i.toNat 0).toNat:Int))).tmod 65521),(bs.wrap (i+1))))else b9 (.inr sum)
def Fe(j:Int)(C:L8):Option Int :=ck (nz 65521)<|(AE (Ef C) (((bs.wrap (j+23)).tmod 65521),0)).bind fun I=>b9 I
def If(I:Int)(J:AU):Option L8 :=(EQ J).bind fun j=>ck (CM j.length ([32]:L8).length)<|(BE I).bind fun C=>ck (CM (j++([32]:L8)).length C.length)<|ck (CM ((j++([32]:L8))++C).length ([10]:L8).length)<|some (((j++([32]:L8))++C)++([10]:L8))
def FQ(s_:L8)(j:UInt8):((List L8)×Int×Int)->Option (((List L8)×Int×Int)⊕((List L8)×Int))
 |(out,from_,i)=>if(bo (i<(s_.length:Int)))then ck (AS i s_.length)<|if(((s_.getD i.toNat 0).toNat:Int)==(j.toNat:Int))then ck (Ja from_ i s_.length)<|ck (Dg (out.length+([(cut s_ from_ i)]:List L8).length) 16)<|some (.inl ((out++([(cut s_ from_ i)]:List L8)),(bs.wrap (i+1)),(bs.wrap (i+1))))else b9 (.inl (out,from_,(bs.wrap (i+1))))else b9 (.inr (out,from_))
def ER(s_:L8)(C:UInt8):Option (List L8) :=(AE (FQ s_ C) (([]:List L8),0,0)).bind fun j=>ck (Ja j.2 (s_.length:Int) s_.length)<|ck (Dg (j.1.length+([(cut s_ j.2 (s_.length:Int))]:List L8).length) 16)<|some (j.1++([(cut s_ j.2 (s_.length:Int))]:List L8))
def EL(s_ t:L8):(Int×Int)->Option ((Int×Int)⊕(Int⊕(Int×Bool)))
 |(n,i)=>if(bo (i<(t.length:Int)))then ck (AS i t.length)<|(Dq (t.getD i.toNat 0)).bind fun j=>if(!j)then b9 (.inr (.inr (0,bI)))else b9 (.inl ((bs.wrap ((bs.wrap (10*n))+(bs.wrap (bX.wrap (((t.getD i.toNat 0).toNat:Int)-48))))),(bs.wrap (i+1))))else b9 (.inr (.inl n))
def KY(s_ t:L8):(Int×Int)->Option ((Int×Int)⊕(Int⊕(Int×Bool)))
 |(n,i)=>if(bo (i<(t.length:Int)))then ck (AS i t.length)<|(Dq (t.getD i.toNat 0)).bind fun j=>if(!j)then b9 (.inr (.inr (0,bI)))else b9 (.inl ((bs.wrap ((bs.wrap (10*n))+(bs.wrap (bX.wrap (((t.getD i.toNat 0).toNat:Int)-48))))),(bs.wrap (i+1))))else b9 (.inr (.inl n))
def Bo (s_:L8):Option (Int×Bool) :=ck (!(!(s_==([]:L8)))||AS 0 s_.length)<|if((!(s_==([]:L8)))&&(((s_.getD 0 0).toNat:Int)==45))then ck (Ja 1 (s_.length:Int) s_.length)<|if((bo (((cut s_ 1 (s_.length:Int)).length:Int)<1))||(bo (18<((cut s_ 1 (s_.length:Int)).length:Int))))then b9 (0,bI)else(AE (EL s_ (cut s_ 1 (s_.length:Int))) (0,0)).bind fun ae=>match ae with
   |.inl C=>if(bo (((cut s_ 1 (s_.length:Int)).length:Int)<(s_.length:Int)))then(BE (bs.wrap (0-C))).bind fun ad=>if(!(ad==s_))then b9 (0,bI)else b9 ((bs.wrap (0-C)),bN)else(BE C).bind fun ab=>if(!(ab==s_))then b9 (0,bI)else b9 (C,bN)
   |.inr J=>b9 (J.1,J.2)else if((bo ((s_.length:Int)<1))||(bo (18<(s_.length:Int))))then b9 (0,bI)else(AE (KY s_ s_) (0,0)).bind fun aa=>match aa with
   |.inl j=>if(bo ((s_.length:Int)<(s_.length:Int)))then(BE (bs.wrap (0-j))).bind fun U=>if(!(U==s_))then b9 (0,bI)else b9 ((bs.wrap (0-j)),bN)else(BE j).bind fun R=>if(!(R==s_))then b9 (0,bI)else b9 (j,bN)
   |.inr I=>b9 (I.1,I.2)
def NT (n:Int):Option Bool :=(Bu n 0 100000).bind fun j=>b9 j
def Ix (C:AU):Option Bool :=(NT C.Day).bind fun j=>ck (!j||(CO C.What).isSome)<|ck (!(j&&((CO C.What).getD a'))||(Bu C.Value (-1000000) 1000000).isSome)<|some ((j&&((CO C.What).getD a'))&&((Bu C.Value (-1000000) 1000000).getD a'))
def Dh(r:Hx)(j:Bool):Int->Option (Int⊕Int)
 |end_=>ck (!(bo (end_<(r.s_.length:Int)))||AS end_ r.s_.length)<|if((bo (end_<(r.s_.length:Int)))&&(!(((r.s_.getD end_.toNat 0).toNat:Int)==10)))then b9 (.inl (bs.wrap (end_+1)))else b9 (.inr end_)
def Jw (r:Hx):Option (Option (Int×Int×AU)) :=(AE (Dh r bI) r.at_).bind fun J=>if(bo ((r.s_.length:Int)<=J))then b9 (c7)else ck (Ja r.at_ J r.s_.length)<|(ER (cut r.s_ r.at_ J) (32:UInt8)).bind fun C=>if(!((C.length:Int)==4))then b9 (c7)else ck (AS 0 C.length)<|(Bo (C.getD 0 a')).bind fun I=>ck (AS 2 C.length)<|(Bo (C.getD 2 a')).bind fun j=>ck (AS 1 C.length)<|ck (!(!((!I.2)||(!j.2)))||(Ix (AU.mk I.1 (C.getD 1 a') j.1)).isSome)<|ck (!(!(((!I.2)||(!j.2))||(!((Ix (AU.mk I.1 (C.getD 1 a') j.1)).getD a'))))||(Ff r).isSome)<|if((((!I.2)||(!j.2))||(!((Ix (AU.mk I.1 (C.getD 1 a') j.1)).getD a')))||(bo (I.1<((Ff r).getD a'))))then b9 (c7)else(EQ (AU.mk I.1 (C.getD 1 a') j.1)).bind fun aa=>(Fe r.stamp_ aa).bind fun R=>(If R (AU.mk I.1 (C.getD 1 a') j.1)).bind fun U=>ck (Ja r.at_ (bs.wrap (J+1)) r.s_.length)<|if(!(U==(cut r.s_ r.at_ (bs.wrap (J+1)))))then b9 (c7)else b9 (b9 (J,R,(AU.mk I.1 (C.getD 1 a') j.1)))
def JL (r:Hx):Option (Bool×Hx) :=(Jw r).bind fun y=>match y with
 |none=>b9 (bI,r)
 |some q=>ck (Dg (r.list_.length+([q.2.2]:List AU).length) 32)<|some (bN,Hx.mk r.s_ (bs.wrap (q.1+1)) q.2.1 (r.list_++[q.2.2]))
def IM:Hx->Option (Hx⊕Hx)
 |r=>(JL r).bind fun y=>if y.1 then b9 (.inl y.2)else b9 (.inr y.2)
def Ie (s_:L8):Option Hx:=AE IM (Hx.mk s_ 0 0 [])
def Ea (s_:L8):Option (Hx×Int) :=if(bo (4000<(s_.length:Int)))then b9 ((Hx.mk [] 0 0 ([]:List AU)),5)else(Ie s_).bind fun j=>if(!(j.at_==(s_.length:Int)))then b9 (j,8)else b9 (j,0)
def Fk(log:L8)(I:AU):Option (L8×Int) :=(Ea log).bind fun j=>if(!(j.2==0))then b9 (([]:L8),j.2)else(Ix I).bind fun aa=>if(!aa)then b9 (([]:L8),7)else(Ff j.1).bind fun U=>if(bo (I.Day<U))then b9 (([]:L8),6)else(EQ I).bind fun R=>(Fe j.1.stamp_ R).bind fun J=>(If J I).bind fun C=>ck (CM log.length C.length)<|if(bo (4000<((log++C).length:Int)))then b9 (([]:L8),5)else b9 ((log++C),0)
def Jm(log what:L8):Option (Hx×Int) :=(Ea log).bind fun j=>ck (!(j.2==0)||(CO what).isSome)<|if((j.2==0)&&(!((CO what).getD a')))then b9 (j.1,2)else b9 (j.1,j.2)
def Gx(what:L8)(r:Hx):((List Int)×Int)->Option (((List Int)×Int)⊕(List Int))
 |(out,i)=>if(bo (i<(r.list_.length:Int)))then ck (AS i r.list_.length)<|if(((r.list_.getD i.toNat a').What)==what)then ck (Dg (out.length+([(r.list_.getD i.toNat a').Value]:List Int).length) 8)<|some (.inl ((out++([(r.list_.getD i.toNat a').Value]:List Int)),(bs.wrap (i+1))))else b9 (.inl (out,(bs.wrap (i+1))))else b9 (.inr out)
def Em(log what:L8):Option ((List Int)×Int) :=(Jm log what).bind fun j=>if(!(j.2==0))then b9 (([]:List Int),j.2)else(AE (Gx what j.1) (([]:List Int),0)).bind fun C=>b9 (C,0)
def JB (n:Int):Option L8 :=ck (nz 100)<|(BE (bs.wrap (n.tdiv 100))).bind fun C=>ck (nz 10)<|(BE ((bs.wrap (n.tdiv 10)).tmod 10)).bind fun j=>ck (CM C.length j.length)<|(BE (n.tmod 10)).bind fun I=>ck (CM (C++j).length I.length)<|some ((C++j)++I)
def Ch (m:Int):Option L8 :=if(bo (m<0))then ck (nz 1000)<|(BE (bs.wrap ((bs.wrap (0-m)).tdiv 1000))).bind fun C=>ck (CM ([45]:L8).length C.length)<|ck (CM (([45]:L8)++C).length ([46]:L8).length)<|(JB ((bs.wrap (0-m)).tmod 1000)).bind fun J=>ck (CM ((([45]:L8)++C)++([46]:L8)).length J.length)<|some (((([45]:L8)++C)++([46]:L8))++J)else ck (nz 1000)<|(BE (bs.wrap (m.tdiv 1000))).bind fun j=>ck (CM ([]:L8).length j.length)<|ck (CM (([]:L8)++j).length ([46]:L8).length)<|(JB (m.tmod 1000)).bind fun I=>ck (CM ((([]:L8)++j)++([46]:L8)).length I.length)<|some (((([]:L8)++j)++([46]:L8))++I)
def Jy (j:List AA):(L8×Int)->Option ((L8×Int)⊕L8)
 |(out,i)=>if(bo (i<(j.length:Int)))then ck (AS i j.length)<|(BE ((j.getD i.toNat a').Time)).bind fun C=>ck (CM C.length ([32]:L8).length)<|ck (CM (C++([32]:L8)).length ((j.getD i.toNat a').Star).length)<|ck (CM ((C++([32]:L8))++((j.getD i.toNat a').Star)).length ([32]:L8).length)<|ck (CM (((C++([32]:L8))++((j.getD i.toNat a').Star))++([32]:L8)).length ((j.getD i.toNat a').Observer).length)<|ck (CM ((((C++([32]:L8))++((j.getD i.toNat a').Star))++([32]:L8))++((j.getD i.toNat a').Observer)).length ([32]:L8).length)<|ck (Dg (out.length+(((((C++([32]:L8))++((j.getD i.toNat a').Star))++([32]:L8))++((j.getD i.toNat a').Observer))++([32]:L8)).length) 1)<|if(j.getD i.toNat a').Fainter then ck (Dg ((out++(((((C++([32]:L8))++((j.getD i.toNat a').Star))++([32]:L8))++((j.getD i.toNat a').Observer))++([32]:L8))).length+([(60:UInt8)]:L8).length) 1)<|(Ch ((j.getD i.toNat a').Mag)).bind fun J=>ck (CM J.length ([10]:L8).length)<|ck (Dg (((out++(((((C++([32]:L8))++((j.getD i.toNat a').Star))++([32]:L8))++((j.getD i.toNat a').Observer))++([32]:L8)))++([(60:UInt8)]:L8)).length+(J++([10]:L8)).length) 1)<|some (.inl ((((out++(((((C++([32]:L8))++((j.getD i.toNat a').Star))++([32]:L8))++((j.getD i.toNat a').Observer))++([32]:L8)))++([(60:UInt8)]:L8))++(J++([10]:L8))),(bs.wrap (i+1))))else(Ch ((j.getD i.toNat a').Mag)).bind fun I=>ck (CM I.length ([10]:L8).length)<|ck (Dg ((out++(((((C++([32]:L8))++((j.getD i.toNat a').Star))++([32]:L8))++((j.getD i.toNat a').Observer))++([32]:L8))).length+(I++([10]:L8)).length) 1)<|some (.inl (((out++(((((C++([32]:L8))++((j.getD i.toNat a').Star))++([32]:L8))++((j.getD i.toNat a').Observer))++([32]:L8)))++(I++([10]:L8))),(bs.wrap (i+1))))else b9 (.inr out)
def Fg (C:List AA):Option L8 :=(AE (Jy C) (([]:L8),0)).bind fun j=>b9 j
def Bz (j:L8):Option L8 :=if(j==([115,116,97,114]:L8))then b9 ([120,110,110,109,109]:L8)else if(j==([101,115,116]:L8))then b9 ([110,120,120,101]:L8)else if(j==([98,101,115,116]:L8))then b9 ([120,110,110,110]:L8)else if(j==([101,110,116,101,114]:L8))then b9 ([110,120,110]:L8)else if(j==([102,111,108,100]:L8))then b9 ([120,110]:L8)else if(j==([112,97,105,114,115]:L8))then b9 ([110,110]:L8)else if(j==([97,109,112]:L8))then b9 ([120]:L8)else if(j==([99,117,114,118,101]:L8))then b9 ([120]:L8)else if(j==([108,97,115,116]:L8))then b9 ([120]:L8)else if(j==([108,111,103]:L8))then b9 ([]:L8)else b9 ([45]:L8)
def Cy(s_:L8)(w:List L8)(C:Bool):(Int×Int)->Option ((Int×Int)⊕(Int⊕(Int×Bool)))
 |(n,i)=>if(bo (i<3))then ck (AS 1 w.length)<|ck (AS i ((w.getD 1 a').length))<|(Dq ((w.getD 1 a').getD i.toNat 0)).bind fun j=>if(!j)then b9 (.inr (.inr (0,bI)))else b9 (.inl ((bs.wrap ((bs.wrap (10*n))+(bs.wrap (bX.wrap ((((w.getD 1 a').getD i.toNat 0).toNat:Int)-48))))),(bs.wrap (i+1))))else b9 (.inr (.inl n))
def Lf(s_:L8)(w:List L8)(C:Bool):(Int×Int)->Option ((Int×Int)⊕(Int⊕(Int×Bool)))
 |(n,i)=>if(bo (i<3))then ck (AS 1 w.length)<|ck (AS i ((w.getD 1 a').length))<|(Dq ((w.getD 1 a').getD i.toNat 0)).bind fun j=>if(!j)then b9 (.inr (.inr (0,bI)))else b9 (.inl ((bs.wrap ((bs.wrap (10*n))+(bs.wrap (bX.wrap ((((w.getD 1 a').getD i.toNat 0).toNat:Int)-48))))),(bs.wrap (i+1))))else b9 (.inr (.inl n))
def Ci (s_:L8):Option (Int×Bool) :=(ER s_ (46:UInt8)).bind fun j=>ck (!(!(!((j.length:Int)==2)))||AS 1 j.length)<|if((!((j.length:Int)==2))||(!(((j.getD 1 a').length:Int)==3)))then b9 (0,bI)else ck (AS 0 j.length)<|ck (!(bo (0<((j.getD 0 a').length:Int)))||AS 0 ((j.getD 0 a').length))<|if((bo (0<((j.getD 0 a').length:Int)))&&((((j.getD 0 a').getD 0 0).toNat:Int)==45))then ck (Ja 1 ((j.getD 0 a').length:Int) ((j.getD 0 a').length))<|(Bo (cut (j.getD 0 a') 1 ((j.getD 0 a').length:Int))).bind fun R=>ck (!(!(!R.2))||(Bu R.1 0 20).isSome)<|if((!R.2)||(!((Bu R.1 0 20).getD a')))then b9 (0,bI)else(AE (Cy s_ j ((bo (0<((j.getD 0 a').length:Int)))&&((((j.getD 0 a').getD 0 0).toNat:Int)==45))) (R.1,0)).bind fun aj=>match aj with
    |.inl I=>(Bv (bs.wrap (0-I))).bind fun ad=>ck (!(!(!ad))||(Ch (bs.wrap (0-I))).isSome)<|if((!ad)||(!(((Ch (bs.wrap (0-I))).getD a')==s_)))then b9 (0,bI)else b9 ((bs.wrap (0-I)),bN)
    |.inr aa=>b9 (aa.1,aa.2)else(Bo (j.getD 0 a')).bind fun J=>ck (!(!(!J.2))||(Bu J.1 0 20).isSome)<|if((!J.2)||(!((Bu J.1 0 20).getD a')))then b9 (0,bI)else(AE (Lf s_ j ((bo (0<((j.getD 0 a').length:Int)))&&((((j.getD 0 a').getD 0 0).toNat:Int)==45))) (J.1,0)).bind fun ae=>match ae with
    |.inl C=>(Bv C).bind fun ab=>ck (!(!(!ab))||(Ch C).isSome)<|if((!ab)||(!(((Ch C).getD a')==s_)))then b9 (0,bI)else b9 (C,bN)
    |.inr U=>b9 (U.1,U.2)
def Fj (j:Int):Option L8 :=(Bu j 0 (bs.wrap ((([([111,107]:L8),([105,110,118,97,108,105,100]:L8),([114,97,110,103,101]:L8),([110,111,116,45,102,111,117,110,100]:L8),([101,120,105,115,116,115]:L8),([102,117,108,108]:L8),([115,116,97,116,101]:L8),([115,121,110,116,97,120]:L8),([102,111,114,109,97,116]:L8),([99,108,97,115,104]:L8),([99,108,111,117,100,121]:L8)]:List L8).length:Int)-1))).bind fun C=>if(!C)then b9 ([]:L8)else ck (AS j (([([111,107]:L8),([105,110,118,97,108,105,100]:L8),([114,97,110,103,101]:L8),([110,111,116,45,102,111,117,110,100]:L8),([101,120,105,115,116,115]:L8),([102,117,108,108]:L8),([115,116,97,116,101]:L8),([115,121,110,116,97,120]:L8),([102,111,114,109,97,116]:L8),([99,108,97,115,104]:L8),([99,108,111,117,100,121]:L8)]:List L8).length))<|some (([([111,107]:L8),([105,110,118,97,108,105,100]:L8),([114,97,110,103,101]:L8),([110,111,116,45,102,111,117,110,100]:L8),([101,120,105,115,116,115]:L8),([102,117,108,108]:L8),([115,116,97,116,101]:L8),([115,121,110,116,97,120]:L8),([102,111,114,109,97,116]:L8),([99,108,97,115,104]:L8),([99,108,111,117,100,121]:L8)]:List L8).getD j.toNat a')
def Ep (d:Ad):Option L8 :=(BE (d.Stars.length:Int)).bind fun j=>ck (CM j.length ([32,115,116,97,114,115,32]:L8).length)<|(BE (d.Estimates.length:Int)).bind fun C=>ck (CM (j++([32,115,116,97,114,115,32]:L8)).length C.length)<|ck (CM ((j++([32,115,116,97,114,115,32]:L8))++C).length ([32,101,115,116,105,109,97,116,101,115]:L8).length)<|some (((j++([32,115,116,97,114,115,32]:L8))++C)++([32,101,115,116,105,109,97,116,101,115]:L8))
def OR (j:List Int):(Int×Int)->Option ((Int×Int)⊕Int)
 |(sum,i)=>if(bo (i<(j.length:Int)))then ck (AS i j.length)<|some (.inl ((bs.wrap (sum+(j.getD i.toNat a'))),(bs.wrap (i+1))))else b9 (.inr sum)
def Jg (j:List Int):Option Int :=(AE (OR j) (0,0)).bind fun C=>b9 C
def MB(a:Star)(j:Int):Option Int :=if(bo ((bs.wrap (j-(a.Name.length:Int)))<0))then b9 (-1)else b9 (bs.wrap (j-(a.Name.length:Int)))
def IT (a:List Star):(Int×Int)->Option ((Int×Int)⊕(Int⊕Int))
 |(j,i)=>if(bo (i<(a.length:Int)))then ck (AS i a.length)<|(MB (a.getD i.toNat a') j).bind fun C=>if(bo (C<0))then b9 (.inr (.inr (-1)))else b9 (.inl (C,(bs.wrap (i+1))))else b9 (.inr (.inl j))
def LH(a:List Star)(j:Int):Option Int :=if(bo ((bs.wrap (j-(a.length:Int)))<0))then b9 (-1)else(AE (IT a) ((bs.wrap (j-(a.length:Int))),0)).bind fun J=>match J with
  |.inl I=>b9 I
  |.inr C=>b9 C
def IU(a:AA)(j:Int):Option Int :=if(bo ((bs.wrap (j-(a.Star.length:Int)))<0))then b9 (-1)else if(bo ((bs.wrap ((bs.wrap (j-(a.Star.length:Int)))-(a.Observer.length:Int)))<0))then b9 (-1)else b9 (bs.wrap ((bs.wrap (j-(a.Star.length:Int)))-(a.Observer.length:Int)))
def FD (a:List AA):(Int×Int)->Option ((Int×Int)⊕(Int⊕Int))
 |(j,i)=>if(bo (i<(a.length:Int)))then ck (AS i a.length)<|(IU (a.getD i.toNat a') j).bind fun C=>if(bo (C<0))then b9 (.inr (.inr (-1)))else b9 (.inl (C,(bs.wrap (i+1))))else b9 (.inr (.inl j))
def Hg(a:List AA)(j:Int):Option Int :=if(bo ((bs.wrap (j-(a.length:Int)))<0))then b9 (-1)else(AE (FD a) ((bs.wrap (j-(a.length:Int))),0)).bind fun J=>match J with
  |.inl I=>b9 I
  |.inr C=>b9 C
def Ji(a:Ad)(C:Int):Option Int :=(LH a.Stars C).bind fun I=>if(bo (I<0))then b9 (-1)else(Hg a.Estimates I).bind fun j=>if(bo (j<0))then b9 (-1)else if(bo ((bs.wrap (j-(a.Log.length:Int)))<0))then b9 (-1)else b9 (bs.wrap (j-(a.Log.length:Int)))
def MC(a b:Star):Option Bool :=if(!(a.Name==b.Name))then b9 bI else if(!(a.Ascend==b.Ascend))then b9 bI else if(!(a.Decl==b.Decl))then b9 bI else if(!(a.Bright==b.Bright))then b9 bI else if(!(a.Faint==b.Faint))then b9 bI else b9 bN
def IV(a b:List Star):Int->Option (Int⊕(Unit⊕Bool))
 |i=>if(bo (i<(a.length:Int)))then ck (AS i a.length)<|ck (AS i b.length)<|(MC (a.getD i.toNat a') (b.getD i.toNat a')).bind fun j=>if(!j)then b9 (.inr (.inr bI))else b9 (.inl (bs.wrap (i+1)))else b9 (.inr (.inl ()))
def LI(a b:List Star):Option Bool :=if(!((a.length:Int)==(b.length:Int)))then b9 bI else(AE (IV a b) 0).bind fun C=>match C with
  |.inl I=>b9 bN
  |.inr j=>b9 j
def IW(a b:AA):Option Bool :=if(!(a.Time==b.Time))then b9 bI else if(!(a.Star==b.Star))then b9 bI else if(!(a.Observer==b.Observer))then b9 bI else if(!(a.Mag==b.Mag))then b9 bI else if(!(a.Fainter==b.Fainter))then b9 bI else b9 bN
def FE(a b:List AA):Int->Option (Int⊕(Unit⊕Bool))
 |i=>if(bo (i<(a.length:Int)))then ck (AS i a.length)<|ck (AS i b.length)<|(IW (a.getD i.toNat a') (b.getD i.toNat a')).bind fun j=>if(!j)then b9 (.inr (.inr bI))else b9 (.inl (bs.wrap (i+1)))else b9 (.inr (.inl ()))
def Hi(a b:List AA):Option Bool :=if(!((a.length:Int)==(b.length:Int)))then b9 bI else(AE (FE a b) 0).bind fun C=>match C with
  |.inl I=>b9 bN
  |.inr j=>b9 j
def Im(a b:Ad):Option Bool :=(LI a.Stars b.Stars).bind fun C=>if(!C)then b9 bI else(Hi a.Estimates b.Estimates).bind fun j=>if(!j)then b9 bI else if(!(a.Log==b.Log))then b9 bI else b9 bN
def GB(a b:List L8):Int->Option (Int⊕(Unit⊕Bool))
 |i=>if(bo (i<(a.length:Int)))then ck (AS i a.length)<|ck (AS i b.length)<|if(!((a.getD i.toNat a')==(b.getD i.toNat a')))then b9 (.inr (.inr bI))else b9 (.inl (bs.wrap (i+1)))else b9 (.inr (.inl ()))
def Fu(a b:List L8):Option Bool :=if(!((a.length:Int)==(b.length:Int)))then b9 bI else(AE (GB a b) 0).bind fun C=>match C with
  |.inl I=>b9 bN
  |.inr j=>b9 j
def Hh :(Int×L8)->Option ((Int×L8)⊕L8)
 |(k,out)=>if(bo (0<k))then ck (nz 10)<|ck (CM ([(mm (bX.wrap (bs.wrap (48+(k.tmod 10)))))]:L8).length out.length)<|some (.inl ((bs.wrap (k.tdiv 10)),(([(mm (bX.wrap (bs.wrap (48+(k.tmod 10)))))]:L8)++out)))else b9 (.inr out)
def BT (k:Int):Option L8 :=if(bo (k<=0))then b9 ([109,48]:L8)else(AE (Hh) (k,([]:L8))).bind fun j=>ck (CM ([109]:L8).length j.length)<|some (([109]:L8)++j)
def Il (a:List Star):(Int×Int)->Option ((Int×Int)⊕(Int⊕Int))
 |(k,i)=>if(bo (i<(a.length:Int)))then ck (AS i a.length)<|(BT k).bind fun j=>if(!(((a.getD i.toNat a').Name)==j))then b9 (.inr (.inr (-1)))else if(!(((a.getD i.toNat a').Ascend)==(bs.wrap (k+1))))then b9 (.inr (.inr (-1)))else if(!(((a.getD i.toNat a').Decl)==(bs.wrap ((bs.wrap (k+1))+1))))then b9 (.inr (.inr (-1)))else if(!(((a.getD i.toNat a').Bright)==(bs.wrap ((bs.wrap ((bs.wrap (k+1))+1))+1))))then b9 (.inr (.inr (-1)))else if(!(((a.getD i.toNat a').Faint)==(bs.wrap ((bs.wrap ((bs.wrap ((bs.wrap (k+1))+1))+1))+1))))then b9 (.inr (.inr (-1)))else b9 (.inl ((bs.wrap ((bs.wrap ((bs.wrap ((bs.wrap ((bs.wrap (k+1))+1))+1))+1))+1)),(bs.wrap (i+1))))else b9 (.inr (.inl k))
def JR(a:List Star)(k:Int):Option Int :=(AE (Il a) (k,0)).bind fun I=>match I with
 |.inl C=>b9 C
 |.inr j=>b9 j
def FO (a:List AA):(Int×Int)->Option ((Int×Int)⊕(Int⊕Int))
 |(k,i)=>if(bo (i<(a.length:Int)))then ck (AS i a.length)<|if(!(((a.getD i.toNat a').Time)==k))then b9 (.inr (.inr (-1)))else(BT (bs.wrap (k+1))).bind fun C=>if(!(((a.getD i.toNat a').Star)==C))then b9 (.inr (.inr (-1)))else(BT (bs.wrap ((bs.wrap (k+1))+1))).bind fun j=>if(!(((a.getD i.toNat a').Observer)==j))then b9 (.inr (.inr (-1)))else if(!(((a.getD i.toNat a').Mag)==(bs.wrap ((bs.wrap ((bs.wrap (k+1))+1))+1))))then b9 (.inr (.inr (-1)))else ck (nz 3)<|if(!(((a.getD i.toNat a').Fainter)==(((bs.wrap ((bs.wrap ((bs.wrap ((bs.wrap (k+1))+1))+1))+1)).tmod 3)==0)))then b9 (.inr (.inr (-1)))else b9 (.inl ((bs.wrap ((bs.wrap ((bs.wrap ((bs.wrap ((bs.wrap (k+1))+1))+1))+1))+1)),(bs.wrap (i+1))))else b9 (.inr (.inl k))
def FT(a:List AA)(k:Int):Option Int :=(AE (FO a) (k,0)).bind fun I=>match I with
 |.inl C=>b9 C
 |.inr j=>b9 j
def Gr(a:Ad)(k:Int):Option Int :=(JR a.Stars k).bind fun C=>if(bo (C<0))then b9 (-1)else(FT a.Estimates C).bind fun j=>if(bo (j<0))then b9 (-1)else b9 j
def GZ (a:List L8):(Int×Int)->Option ((Int×Int)⊕(Int⊕Int))
 |(k,i)=>if(bo (i<(a.length:Int)))then ck (AS i a.length)<|(BT k).bind fun j=>if(!((a.getD i.toNat a')==j))then b9 (.inr (.inr (-1)))else b9 (.inl ((bs.wrap (k+1)),(bs.wrap (i+1))))else b9 (.inr (.inl k))
def Eh(a:List L8)(k:Int):Option Int :=(AE (GZ a) (k,0)).bind fun I=>match I with
 |.inl C=>b9 C
 |.inr j=>b9 j
def Ew :((List Star)×Int×Int)->Option (((List Star)×Int×Int)⊕((List Star)×Int))
 |(a,k,i)=>if(bo (i<(a.length:Int)))then(BT k).bind fun j=>ck (AS i a.length)<|some (.inl ((a.set i.toNat (Star.mk j (bs.wrap (k+1)) (bs.wrap ((bs.wrap (k+1))+1)) (bs.wrap ((bs.wrap ((bs.wrap (k+1))+1))+1)) (bs.wrap ((bs.wrap ((bs.wrap ((bs.wrap (k+1))+1))+1))+1)))),(bs.wrap ((bs.wrap ((bs.wrap ((bs.wrap ((bs.wrap (k+1))+1))+1))+1))+1)),(bs.wrap (i+1))))else b9 (.inr (a,k))
def Dl(a:List Star)(k:Int):Option (Int×(List Star)) :=(AE (Ew) (a,k,0)).bind fun j=>ck (j.1.length==a.length)<|some (j.2,j.1)
def Da :((List AA)×Int×Int)->Option (((List AA)×Int×Int)⊕((List AA)×Int))
 |(a,k,i)=>if(bo (i<(a.length:Int)))then ck (AS i a.length)<|(BT (bs.wrap (k+1))).bind fun C=>(BT (bs.wrap ((bs.wrap (k+1))+1))).bind fun j=>ck (nz 3)<|some (.inl ((a.set i.toNat (AA.mk k C j (bs.wrap ((bs.wrap ((bs.wrap (k+1))+1))+1)) (((bs.wrap ((bs.wrap ((bs.wrap ((bs.wrap (k+1))+1))+1))+1)).tmod 3)==0))),(bs.wrap ((bs.wrap ((bs.wrap ((bs.wrap ((bs.wrap (k+1))+1))+1))+1))+1)),(bs.wrap (i+1))))else b9 (.inr (a,k))
def CL(a:List AA)(k:Int):Option (Int×(List AA)) :=(AE (Da) (a,k,0)).bind fun j=>ck (j.1.length==a.length)<|some (j.2,j.1)
def EJ :((List L8)×Int×Int)->Option (((List L8)×Int×Int)⊕((List L8)×Int))
 |(a,k,i)=>if(bo (i<(a.length:Int)))then(BT k).bind fun j=>ck (AS i a.length)<|some (.inl ((a.set i.toNat j),(bs.wrap (k+1)),(bs.wrap (i+1))))else b9 (.inr (a,k))
def DX(a:List L8)(k:Int):Option (Int×(List L8)) :=(AE (EJ) (a,k,0)).bind fun j=>ck (j.1.length==a.length)<|some (j.2,j.1)
def NX (a:Star):Option Star :=some a
def Jz (a:List Star):((List Star)×Int)->Option (((List Star)×Int)⊕(List Star))
 |(out,i)=>if(bo (i<(a.length:Int)))then ck (AS i a.length)<|(NX (a.getD i.toNat a')).bind fun j=>ck (AS i out.length)<|some (.inl ((out.set i.toNat j),(bs.wrap (i+1))))else b9 (.inr out)
def Gg (a:List Star):Option (List Star) :=ck (xN (a.length:Int) 48)<|(AE (Jz a) ((df (a.length:Int).toNat (Star.mk [] 0 0 0 0)),0)).bind fun j=>b9 j
def KA (a:AA):Option AA :=some a
def GY (a:List AA):((List AA)×Int)->Option (((List AA)×Int)⊕(List AA))
 |(out,i)=>if(bo (i<(a.length:Int)))then ck (AS i a.length)<|(KA (a.getD i.toNat a')).bind fun j=>ck (AS i out.length)<|some (.inl ((out.set i.toNat j),(bs.wrap (i+1))))else b9 (.inr out)
def Dy (a:List AA):Option (List AA) :=ck (xN (a.length:Int) 56)<|(AE (GY a) ((df (a.length:Int).toNat (AA.mk 0 [] [] 0 bI)),0)).bind fun j=>b9 j
def KH (d:Ad):Int->Option (Int⊕(Unit⊕Bool))
 |i=>if(bo (i<(d.Estimates.length:Int)))then ck (AS i d.Estimates.length)<|(Fh d.Stars ((d.Estimates.getD i.toNat a').Star)).bind fun j=>if(bo (j<0))then b9 (.inr (.inr bI))else b9 (.inl (bs.wrap (i+1)))else b9 (.inr (.inl ()))
def Ke (d:Ad):Option Bool :=(Ea d.Log).bind fun J=>(Lm d.Stars).bind fun C=>ck (!(!(!C))||(Hj d.Estimates).isSome)<|if(((!C)||(!((Hj d.Estimates).getD a')))||(!(J.2==0)))then b9 bI else(AE (KH d) 0).bind fun I=>match I with
  |.inl R=>b9 bN
  |.inr j=>b9 j
def GC(d:Ad)(j:List AA)(I:Int):Int->Option (Int⊕(Unit⊕Bool))
 |t20=>if(bo (t20<I))then ck (AS t20 j.length)<|(EC d.Stars ((j.getD t20.toNat a').Star)).bind fun C=>if(!C)then b9 (.inr (.inr bI))else b9 (.inl (bs.wrap (t20+1)))else b9 (.inr (.inl ()))
def Fy (d:Ad):Option Bool :=(GQ d.Stars).bind fun C=>ck (!(!(!C))||(BO d.Estimates).isSome)<|if((!C)||(!((BO d.Estimates).getD a')))then b9 bI else(AE (GC d d.Estimates (d.Estimates.length:Int)) 0).bind fun J=>match J with
  |.inl R=>(EY d.Log).bind fun I=>b9 (I.2==0)
  |.inr j=>b9 j
