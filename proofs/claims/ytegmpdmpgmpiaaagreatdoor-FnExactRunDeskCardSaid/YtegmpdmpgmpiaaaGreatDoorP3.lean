/- Lemmas and walks, several texts in one. No condition. -/
import Derived.Test.YtegmpdmpgmpiaaaGreatDoorP2
import Derived.ProofKit
import Derived.OpenShut
import Derived.Test.YtegmpdmpgmpiaaaGreatDoorP1
import Derived.Test.YtegmpdmpgmpiaaaGreatDoorRows
import Derived.Lib.Bytealg
import Derived.Lib.ItoaNum
import Derived.Lib.SlicesCompact
import Derived.Laws.Externs
import Derived.Lib.IndexMore
import Derived.Lib.Split
import Derived.Lib.Join
import Derived.Lib.Strings
import Derived.Lib.ParseIntB
import Derived.Lib.Repeat
import Derived.Lib.Slices
import Derived.Lib.SlTrimSet
open Bool renaming true->b9,false->be,false_ne_true->bR,noConfusion->c7,and_eq_true_iff->ea,not_eq_true'->ek,and_self->fI
open Classical renaming epsilon->dc,choose->e8
open Decidable renaming decide->b5
open Go renaming Program->bI,undef->b',FuncId->cn,World->cI,ResultVar->dX,TypeDesc->e3,results->ga,Func->gj
open Go.IntKind renaming i64->bb,u8->bS,signed->db,wrap->dw,bits->dz
open Go.Lib renaming split->cc,cut->d',itoa->e4,minOf->ev,maxOf->ew,compareBytes->eL,trimPrefix->fy,join->fA
open Go.Op renaming bytesLess->cA
open Go.Proofs.YtegmpdmpgmpiaaaGreatDoor.Rs renaming bad->cb
open Inhabited renaming default->a'
open List renaming map->bN,map_cons->bX,getD_cons_zero->c8,getElem?_map->cd,getElem?_range->cm,range->ct,getElem?_cons_zero->cL,all_eq_true->cS,flatMap_cons->dT,map_nil->e5,length_replicate->e6,getElem?_eq_none->e7,mem_of_getElem?->e9,getD_cons_succ->ec,length_append->ej,getElem_mem->en,map_append->et,length_map->eu,replicate->fa,mem_cons->ff,map_take->fm,map_drop->fs,all_cons->fx
open Nat renaming le_refl->cf,zero_add->c',zero_mul->gb,lt_or_ge->gf,le_total->gg
open Option renaming some->b8,none->c6,getD_some->ef
open Option.some renaming injEq->cl,inj->df
set_option linter.defProp false
set_option linter.unusedSimpArgs false
set_option linter.unusedVariables false
open Go.IntKind (i64 u64)
noncomputable section
namespace Go.Proofs.YtegmpdmpgmpiaaaGreatDoor
open Go Go.RowKit
def xp(P:bI)(vm:List Nat):dX->oh->Bool
 | .tmp t,.t n=>vm[n]? == b8 t
 | .cell a t,.cell agg sz p=>vm[p]? == b8 a&&(mD P t==b8 agg&&VW P t==b8 sz)
 | _,_=>be
def ep(P:bI)(vm:List Nat):List dX->List oh->Bool
 | [],[]=>b9
 | a::r,b::q=>xp P vm a b&&ep P vm r q
 | _,_=>be
def wK:List Nat->Bool
 | []=>b9
 | a::r=>!r.contains a&&wK r
def Sc(P:bI)(f:cn)(fn:Bl)(vm:List Nat):Bool :=
 match P.funcs[f]? with
 | none=>be
 | some fu=>!(fu.name == "runtime.NumGoroutine")&&(match fu.body with
  | none=>be
  | some c=>wK vm&&(vm.length==fn.nv&&(b5 (fn.np<=fn.nv)&&(vm.take fn.np==ct fn.np&&(vm.all (fun t=>decide (t<fu.ntmps)) &&
    (b5 (fu.results.size<=4)&&(ep P vm fu.results.toList fn.res&&oH P fu.ntmps vm c fn.body)))))))
def jl(tmps:Array Value):dX->Sem Value
 | .tmp t=>pure (tmps.getD t b')
 | .cell a t=>do loadVar t (← asAddr (tmps.getD a b'))
section
variable {F Iow:Nat->Prop}{w0:cI}{g0:Gh}{o0:Cp}{g:Gh}{w w':cI}{tmps:Array Value}{ds:List Deferred}{vm ss ss':List Nat}{s:St}{P:bI}{T:Kc}
theorem ui(h:FR F g w tmps vm ss s){n t:Nat}(i:vm[n]? = b8 t):SR (AS F g s.ob) w g s.ob (tmps.getD t b') (s.vs.getD n .any):=by
 have hl:n<vm.length:=by
  rcases gf n vm.length with j | j
  ·exact j
  ·rw[e7 j] at i;cases i
 have:=h.vs n hl;rw[gdE (l:=vm),i] at this;exact this
theorem AAB(h:FR F g w tmps vm ss s){I:dX}{rs:oh}(o:xp P vm I rs=b9)(j:(QR s rs).ok=b9):
  ∃ u,(jl tmps I).run P w = .ok u w∧SR (AS F g s.ob) w g s.ob u (QR s rs).v:=by
 unfold xp at o;split at o
 ·rename_i t n;simp only[beq_iff_eq] at o;exact⟨_,rfl,ui h o⟩
 ·rename_i a t agg sz p;simp only[baT,beq_iff_eq] at o;obtain⟨h1,h2,U⟩:=o;have J:=ui h h1;simp only[QR] at j ⊢;revert j;generalize s.vs.getD p .any=av at J;intro j;cases av<;>simp only[Xj,bad] at j<;>try (cases j;done)
  rename_i k i off;obtain⟨ad,u,e,R,C,_⟩:=kN (P:=P) h h2 U J j;refine⟨u,?_,C.toSR⟩;simp[jl,e,asAddr,R]
 ·cases o
theorem jn{fu:gj}{vs:List Value}(i:fu.results.size<=4)(hl:vs.length=fu.results.size)(h:∀ j J,fu.results.toList[j]? = b8 J->(jl tmps J).run P w = .ok (vs.getD j b') w):
  (ga fu tmps).run P w = .ok (match vs with | [a]=>a|_=>.tuple vs.toArray) w:=by
 obtain⟨l,C⟩:∃ l,fu.results=l.toArray:=⟨fu.results.toList,by simp⟩;rw[C] at i hl h;simp only[List.size_toArray] at i hl
 have I:ga fu tmps=(do let vs ← fu.results.mapM (jl tmps);pure (if h:vs.size=1 then vs[0] else .tuple vs)):=by
  unfold ga
  congr 1
 rw[I,C]
 match l,vs,hl,i,h with
 | [],[],_,_,_=>simp
 | [a],[x],_,_,h=>
  have o:=h 0 a rfl;simp at o;simp[o]
 | [a,b],[x,y],_,_,h=>
  have o:=h 0 a rfl;have p:=h 1 b rfl;simp at o p;simp[o,p]
 | [a,b,c],[x,y,z],_,_,h=>
  have o:=h 0 a rfl;have p:=h 1 b rfl;have h2:=h 2 c rfl;simp at o p h2;simp[o,p,h2]
 | [a,b,c,d],[x,y,z,u],_,_,h=>
  have o:=h 0 a rfl;have p:=h 1 b rfl;have h2:=h 2 c rfl;have R:=h 3 d rfl;simp at o p h2 R;simp[o,p,h2,R]
 | _::_::_::_::_::_,_,_,i,_=>simp at i
theorem jo(h:FR F g w tmps vm ss s):∀ (o:List dX) (rs:List oh),ep P vm o rs=b9->((rs.map (QR s)).all (·.ok))=b9 ->
  ∃ vs:List Value,vs.length=o.length∧vs.length=rs.length∧(∀ j I,o[j]? = b8 I->(jl tmps I).run P w = .ok (vs.getD j b') w) ∧
   ∀ j,j<rs.length->SR (AS F g s.ob) w g s.ob (vs.getD j b') (((rs.map (QR s)).map (·.v)).getD j .any)
 | [],[],_,_=>⟨[],rfl,rfl,fun j I i=>by simp at i,fun j i=>by simp at i⟩
 | [],_::_,C,_=>by simp[ep] at C
 | _::_,[],C,_=>by simp[ep] at C
 | a::r,b::q,C,p=>by
  simp only[ep,baT] at C;simp only[bX,fx,baT] at p;obtain⟨u,U,h2⟩:=AAB h C.1 p.1;obtain⟨vs,n1,n2,R,J⟩:=jo h r q C.2 p.2;refine⟨u::vs,by simp[n1],by simp[n2],fun j I i=>?_,fun j i=>?_⟩
  ·cases j with
   | zero=>simp only[cL,cl] at i;subst i;exact U
   | succ j=>exact R j I (by simpa using i)
  ·cases j with
   | zero=>exact h2
   | succ j=>simpa using J j (by simpa using i)
theorem xM{S:Nat->Prop}{ob:Cp}{v:Value}{a:AV}(h:SR S w g ob v a)(j:(Cy ob a).ok=b9):uf S w g ob (a.key1.headD 0) v (Cy ob a).v∧(JH (Cy ob a).v=b9->a.key1=[a.key1.headD 0])∧(∀ cs,(Cy ob a).v ≠ .tup cs):=by
 cases a<;>simp only[Cy,bad,Ds] at j ⊢<;>try (cases j;done)
 case own k=>
  obtain⟨hm,o,p⟩:=h;simp only[o,gH,Ds];exact⟨⟨o,p⟩,fun _=>rfl,fun cs e=>by cases e⟩
 case ref k i off=>
  obtain⟨hm,o,hi,p⟩:=h;simp only[o,gG,Fp,baT,beq_iff_eq] at j ⊢;obtain⟨rfl,rfl,hl⟩:=j;exact⟨⟨o,hl,by rw[p,gb];rfl⟩,fun _=>rfl,fun cs e=>by cases e⟩
 case fn f a1 a2=>
  simp only[Fp] at j ⊢;refine⟨?_,fun e=>by simp[JH] at e,fun cs e=>by cases e⟩;have C:(AV.fn f a1 a2).atoms=b9:=by simpa[AV.atoms,AV.cells,AV.atom] using j
  exact h.atoms C
 all_goals exact⟨h,fun e=>by simp[JH] at e,fun cs e=>by cases e⟩
theorem gK:∀ (l:List AV) (i j:Nat),Eb (l.flatMap AV.key1)=b9->i<j->j<l.length->∀ k,k∈(l.getD i .any).key1->k∈(l.getD j .any).key1->False
 | [],_,_,_,_,h,_,_,_=>by simp at h
 | a::l,0,j+1,hd,_,o,k,p,h2=>by
  simp only[dT] at hd;refine (JB hd).2 k (by simpa using p) (DL (j:=j) (by simpa using o) (by simpa using h2))
 | a::l,i+1,j+1,hd,C,o,k,p,h2=>by
  simp only[dT] at hd;exact gK l i j (JB hd).1 (by omega) (by simpa using o) k (by simpa using p) (by simpa using h2)
 | _::_,0,0,_,h,_,_,_,_=>by omega
 | _::_,_+1,0,_,h,_,_,_,_=>by omega
theorem Uc:∀ (ms:List Md) (i j:Nat),ms[j]? = b8 .io->AD (i+j)∈Js ms i
 | [],_,j,h=>by simp at h
 | m::ms,i,0,h=>by
  simp only[cL,cl] at h;subst h;simp[Js]
 | m::ms,i,j+1,h=>by
  have:=Uc ms (i+1) j (by simpa using h);rw[show i+(j+1)=i+1+j by omega];cases m<;>simp only[Js,ff]<;>first|exact this|exact .inr this
theorem fL(ob:Cp):∀ (ms:List Md) (i:Nat) (az:List AV) (j:Nat),ms[j]? = b8 .io->ms.length=az.length->(Uq ob ms i az)[j]? = b8 (QJ ob (i+j) (az.getD j .any) .io)
 | [],_,_,j,h,_=>by simp at h
 | _::_,_,[],_,_,h=>by simp at h
 | m::ms,i,a::az,0,h,_=>by
  simp only[cL,cl] at h;subst h;simp[Uq]
 | m::ms,i,a::az,j+1,h,hl=>by
  have:=fL ob ms (i+1) az j (by simpa using h) (by simpa using hl);rw[show i+(j+1)=i+1+j by omega];simpa[Uq] using this
end
open Go Go.RowKit
theorem Mw{P:bI}{f:cn}{fu:gj}{c:Code}(o:P.funcs[f]? = b8 fu)(p:fu.body=b8 c)(j:(fu.name == "runtime.NumGoroutine")=be)(args:Array Value)(w:cI):
  (callFunc f args).run P w = .ok (.enter f args) w:=by
 have i:¬ fu.name = "runtime.NumGoroutine":=by simpa using j
 simp[callFunc,o,p,i]
theorem km{P:bI}{vm:List Nat}{np:Nat}(h:vm.take np=ct np){i:Nat}(hi:i<np):vm.getD i 0=i∧i<vm.length:=by
 have hl:np<=vm.length:=by
  have:=congrArg List.length h;simp at this;omega
 refine⟨?_,by omega⟩;have:(vm.take np)[i]? = b8 i:=by rw[h];exact cm hi
 rw[List.getElem?_take] at this;simp only[hi,if_true] at this;rw[gdE,this];rfl
theorem ABl{F:Nat->Prop}{g0 g:Gh}{w w':cI}{args:List AV}{modes:List Md}{tmps:Array Value}{vm:List Nat}{s:St}{ms:List Mk}{vs:List Value}
  (b0:Fh modes args=b9) (h:FX F (fun b=>∃ k,Ma g0 (BR 0 args) k∧g0.β k=b) w g0 (BR 0 args) g w' tmps vm [] s) (hn:vs.length=ms.length)
  (hv:∀ j,j<ms.length->SR (AS F g s.ob) w' g s.ob (vs.getD j b') ((ms.map (·.v)).getD j .any)) (a8:(ZZ s modes args ms).ok=b9) :
  bu F g0 args modes w (match vs with | [a]=>a|_=>.tuple vs.toArray) w' (ZZ s modes args ms).r (ZZ s modes args ms).outs g s.ob (fun i=>(((ms.map (·.v)).getD (i-1) .any).key1).headD 0):=by
 simp only[ZZ,baT] at a8 ⊢;obtain⟨_,_,I,U,ae⟩:=a8;obtain⟨a9,a6⟩:=Pe _ _ b0;generalize b4:ms.map (·.v)=rs at I U hv ⊢;have C:rs.length=ms.length:=by rw[← b4];simp
 simp only[gF,baT] at I;obtain⟨ax,b7⟩:=I
 have p:∀ j,j<rs.length->uf (AS F g s.ob) w' g s.ob ((rs.getD j .any).key1.headD 0) (vs.getD j b') (Cy s.ob (rs.getD j .any)).v∧(JH (Cy s.ob (rs.getD j .any)).v=b9->(rs.getD j .any).key1=[(rs.getD j .any).key1.headD 0]) ∧
   (∀ cs,(Cy s.ob (rs.getD j .any)).v ≠ .tup cs):=by
  intro j R;refine xM (hv j (by omega)) ?_;simp only[cS] at U;refine U _ (List.mem_map.2 ⟨rs.getD j .any,?_,rfl⟩);rw[gdE,geE R];exact en R
 have ab:∀ j,j<rs.length->(((rs.map (Cy s.ob)).map (·.v))).getD j .any=(Cy s.ob (rs.getD j .any)).v:=by
  intro j R;simp[gdE,cd,geE R]
 have ac:∀ i,Jk (UN ((rs.map (Cy s.ob)).map (·.v))) i->i-1<rs.length∧JH (Cy s.ob (rs.getD (i-1) .any)).v=b9∧((rs.length=1∧i=0)∨(2<=rs.length∧1<=i)):=by
  intro i hi
  match rs,p,ab,hi with
  | [],_,_,hi=>simp[UN,Jk,JH] at hi
  | [a],p,_,hi=>
   have J:=(p 0 (by simp)).2.2;simp only[bX,e5,UN,c8] at hi J;revert hi J;generalize hx:(Cy s.ob a).v=x;intro hi J
   have:i=0∧JH x=b9:=by
    cases x<;>first|exact absurd rfl (J _)|exact hi
   obtain⟨rfl,hf⟩:=this;simp only[List.length_singleton,Nat.zero_sub,c8,hx];exact⟨by omega,hf,by simp⟩
  | a::b::r,_,ab,hi=>
   simp only[bX,Jk] at hi;obtain⟨j,rfl,R,hf⟩:=hi;have ad:j<(a::b::r).length:=by simpa using R
   have:=ab j ad;simp only[bX] at this;rw[this] at hf;exact⟨by simpa using ad,by simpa using hf,.inr ⟨by simp,by omega⟩⟩
 refine⟨h.same,h.home,h.inj,h.nF,h.hio,?_,fun i j hi R e=>?_,fun i j hi R e=>?_,fun j R=>?_⟩
 ·match rs,vs,p,ab,C,hn with
  | [],[],_,_,_,_=>exact VR.cv
  | [a],[v],p,_,_,_=>
   have h1:=p 0 (by simp);simp only[bX,e5,UN,c8] at h1 ⊢;obtain⟨h1,_,J⟩:=h1;revert h1 J;generalize (Cy s.ob a).v=x;intro h1 J;cases x<;>first|exact absurd rfl (J _)|exact h1
  | a::b::r,v::u::vs,p,ab,C,hn=>
   simp only[bX];refine⟨_,rfl,by simp at C hn ⊢;omega,fun j R=>?_⟩;have ad:j<(a::b::r).length:=by simpa using R
   have h1:=(p j ad).1;have h2:=ab j ad;simp only[bX] at h2;rw[h2,Pa];exact h1
  | [],_::_,_,_,C,hn=>simp at C hn;omega
  | [_],[],_,_,C,hn=>simp at C hn;omega
  | [_],_::_::_,_,_,C,hn=>simp at C hn;omega
  | _::_::_,[],_,_,C,hn=>simp at C hn;omega
  | _::_::_,[_],_,_,C,hn=>simp at C hn;omega
 ·obtain⟨a1,a2,a3⟩:=ac i hi;obtain⟨b1,b2,b3⟩:=ac j R;have k1:=(p _ a1).2.1 a2;have k2:=(p _ b1).2.1 b2;have e':(rs.getD (i-1) .any).key1.headD 0=(rs.getD (j-1) .any).key1.headD 0:=e;have m1:(rs.getD (i-1) .any).key1.headD 0∈(rs.getD (i-1) .any).key1:=by rw[k1];simp
  have m2:(rs.getD (i-1) .any).key1.headD 0∈(rs.getD (j-1) .any).key1:=by rw[e',k2];simp
  have:i-1=j-1:=by
   rcases Nat.lt_trichotomy (i-1) (j-1) with a0|heq|a0
   ·exact (gK rs _ _ ax a0 b1 _ m1 m2).elim
   ·exact heq
   ·exact (gK rs _ _ ax a0 a1 _ m2 m1).elim
  omega
 ·obtain⟨a1,a2,_⟩:=ac i hi;have k1:=(p _ a1).2.1 a2;have m1:(rs.getD (i-1) .any).key1.headD 0∈rs.flatMap AV.key1:=DL a1 (by rw[k1];simp);have m2:=Uc modes 0 j R;rw[c'] at m2;have e':(rs.getD (i-1) .any).key1.headD 0=AD j:=e;rw[← e'] at m2;exact aC b7 m1 m2
 ·have hb:=fL s.ob modes 0 args j R a9;rw[c'] at hb
  have o:(QJ s.ob j (args.getD j .any) .io).ok=b9:=by
   simp only[cS] at ae;exact ae _ (e9 hb)
  have b6:j<args.length:=by
   rcases gf j args.length with h' | h'
   ·exact h'
   ·rw[e7 (by omega)] at R;cases R
  have au:=(a6 j b6).2.1 (by rw[gdE,R];rfl);simp only[QJ] at o hb;cases ho:AK (AD j) s.ob with
  | none=>rw[ho] at o;simp[aA,bad] at o
  | some hm=>
   rw[ho] at o hb;simp only[aA,Fp,beq_iff_eq] at o hb;obtain⟨h0,p1,p2,p3,p4⟩:=h.par (AD j) hm (by unfold AD;omega) ho;rw[Gw] at p1
   have a7:((Uq s.ob modes 0 args).map (·.v)).getD j .any=(bif eB (args.getD j .any) then .mem hm.sz hm.els 0 else .fresh hm.sz hm.els):=by
    rw[gdE,cd,hb];rfl
   rw[a7];revert au p1 o;generalize args.getD j .any=aj;intro au o p1;cases aj<;>simp only[Hk] at au<;>try (cases au;done)
   ·rename_i sz e0;have p1:=df p1;subst p1;have o:hm.els.length=e0.length:=o;have p2:hm.sz=sz:=p2;obtain⟨q1,q2⟩:=p4 o;exact⟨sz,e0,hm.els,.inl ⟨rfl,by simp[eB,p2]⟩,o,by rw[← p2],q1,q2⟩
   ·rename_i sz e0 ix;have p1:=df p1;subst p1;have o:hm.els.length=e0.length:=o;have p2:hm.sz=sz:=p2;obtain⟨q1,q2⟩:=p4 o;exact⟨sz,e0,hm.els,.inr ⟨ix,0,rfl,by simp[eB,p2]⟩,o,by rw[← p2],q1,q2⟩
theorem xQ{P:bI}{T:Kc}{f:cn}{fn:Bl}{vm:List Nat}(hT:Kq P T)(R:Sc P f fn vm=b9)(L:Nat)(modes:List Md):CF P f ⟨modes,be,fun args=>OU T L fn modes args⟩:=by
 unfold CF;refine⟨fun e=>c7 e,fun F g0 w args vargs aj a1 p ac=>⟨fun e=>c7 e,?_⟩⟩;simp only at aj ac ⊢;unfold Sc at R;split at R
 ·cases R
 rename_i fu hf;simp only[baT,ek] at R;obtain⟨ad,R⟩:=R;split at R
 ·cases R
 rename_i c hb;simp only[baT,beq_iff_eq,dtE,cS] at R;obtain⟨b0,bs,bv,J,ab,a2,av,ax⟩:=R;unfold DD;rw[Mw hf hb ad];simp only[OU,la,baT,fits,beq_iff_eq] at ac ⊢;obtain⟨⟨_,a5,b2⟩,o⟩:=ac
 have a9:fn.np<=fu.ntmps:=by
  rcases Nat.eq_zero_or_pos fn.np with e|e
  ·omega
  ·obtain⟨h1,h2⟩:=km (P:=P) J (i:=fn.np-1) (by omega);have:=ab (vm.getD (fn.np-1) 0) (by rw[gdE,geE h2];exact en h2);omega
 have bo:vargs.size=fn.np:=by rw[a1,a5]
 have a0:∀ i,i<fn.np->(vargs++Array.replicate (fu.ntmps-vargs.size) b').getD i b'=vargs.getD i undef:=fun i hi=>by
  rw[PT,if_pos (by omega)]
 have a4:FX F (fun b=>∃ k,Ma g0 (BR 0 args) k∧g0.β k=b) w g0 (BR 0 args) g0 w (vargs++Array.replicate (fu.ntmps-vargs.size) b') vm [] (WF fn.nv args):=by
  refine⟨⟨p.home,p.inj,p.nF,p.fb,?_,rfl,fun i hi=>?_,fun i hi=>by simp at hi,fun t ht=>?_,p.tab⟩,AG.refl _ _,fun k hk=>.inr ⟨k,hk,rfl⟩,fun b hb ⟨k,hk,e⟩=>p.nF k hk (by rw[e];exact hb),fun k hm _ hg=>⟨hm,hg,rfl,cf _,fun _=>⟨rfl,rfl⟩⟩⟩
  ·simp only[WF,ej,Kl,e6];omega
  ·simp only[WF];rw[JA,Kl]
   by_cases U:i<args.length
   ·rw[if_pos U];have h1:=p.vs i (by simpa using U);have e1:(ct args.length).getD i 0=i:=by rw[gdE,cm U];rfl
    rw[e1] at h1;rw[(km (P:=P) J (by omega)).1,a0 i (by omega)];exact h1
   ·rw[if_neg U]
    have:(fa (fn.nv-args.length) AV.any).getD (i-args.length) .any = .any:=by
     rw[gdE,List.getElem?_replicate];split<;>rfl
    rw[this];exact SR.any
  ·rcases ht with ht|ht
   ·have:=ab t ht;simp;omega
   ·simp at ht
 have hN:(vargs++Array.replicate (fu.ntmps-vargs.size) b').size=fu.ntmps:=by simp;omega
 refine calls_of_wp hf hb ?_;generalize hE:Bn T L fn.body (WF fn.nv args)=r at o
 have au:r.2.ok=b9:=by
  obtain⟨e,s'⟩:=r;cases e<;>simp only[Lc,ZZ,cb,baT] at o
  ·exact o.1
  ·cases o
  ·exact o.1
 refine KK (T:=T) (L:=L) (ds:=[]) hT trivial c fn.body ax a4 hN (by rw[hE];exact au) fun I w' g' b1 C=>?_
 rw[hE] at C ⊢
 have done:∀ s',r.2=s'->Lc fn modes args r=ZZ s' modes args (fn.res.map (QR s'))->({ tmps:=I,defers:=[] }:Act).defers=[]∧∃ v,(ga fu I).run P w' = .ok v w' ∧
   ∃ v' g ob κ,Ending.returned v=Ending.returned v'∧bu F g0 args modes w v' w' (Lc fn modes args r).r (Lc fn modes args r).outs g ob κ:=by
  intro s' e1 e2;rw[e1] at C;rw[e2] at o ⊢
  have aa:((fn.res.map (QR s')).all (·.ok))=b9:=by
   simp only[ZZ,baT] at o;exact o.2.1
  obtain⟨vs,n1,n2,ao,hrel⟩:=jo (P:=P) C.toFR fu.results.toList fn.res av aa;have hB:=ABl (ms:=fn.res.map (QR s')) (vs:=vs) aj C (by simpa using n2) (fun j hj=>hrel j (by simpa using hj)) o;exact⟨rfl,_,jn a2 (by simpa using n1) ao,_,_,_,_,rfl,hB⟩
 obtain⟨e,s'⟩:=r;cases e
 ·exact done s' rfl rfl
 ·simp[Lc,cb] at o
 ·exact done s' rfl rfl
theorem dx{f f':St->FU}{keep ot rt:List Bool}(o:∀ s,(f s).2.ok=b9->f' s=f s)(i:∀ s,(f s).2.ok=b9->s.ok=b9):∀ n m s,n<=m->(LU f keep ot rt n s).2.ok=b9->LU f' keep ot rt m s=LU f keep ot rt n s
 | 0,_,s,_,h=>by simp[LU,fail] at h
 | n+1,0,s,hm,_=>by omega
 | n+1,m+1,s,hm,h=>by
  simp only[LU] at h ⊢
  have j:(f s).2.ok=b9:=by
   revert h;generalize f s=r;intro h;obtain⟨e,s'⟩:=r;cases e
   ·simp only[KQ,KM] at h;have p:=UX i n _ h;rwa [Jp] at p
   ·simpa only[KQ,KM,Jp] using h
   ·simpa only[KQ,KM,Jp] using h
  rw[o s j];revert h;generalize f s=r;intro h;obtain⟨e,s'⟩:=r;cases e
  ·simp only[KQ,KM] at h ⊢;exact dx o i n m _ (by omega) h
  ·rfl
  ·rfl
theorem Gz{T:Kc}{L M:Nat}(i:L<=M):∀ (C:IR) {s:St},(Bn T L C s).2.ok=b9->Bn T M C s=Bn T L C s
 | .skip,_,_=>rfl
 | .region _ is,s,_=>rfl
 | .test _ is c a b,s,h=>by
  simp only[Bn,Th] at h ⊢;cases p:rd (GB T is s) c<;>rw[p] at h<;>simp only[Nl,fail] at h ⊢
  split at h
  ·rename_i j;rw[if_pos j,if_pos j];exact Gz i a h
  ·rename_i j;rw[if_neg j,if_neg j];exact Gz i b h
 | .anyo k is alts .skip,s,h=>rfl
 | .anyo k is alts (.cond c a b),s,h=>by
  simp only[Bn,Th] at h ⊢;cases p:rd (Us T k is alts s) c<;>rw[p] at h<;>simp only[Nl,fail] at h ⊢
  split at h
  ·rename_i j;rw[if_pos j,if_pos j];exact Gz i a h
  ·rename_i j;rw[if_neg j,if_neg j];exact Gz i b h
 | .anyo k is alts (.region _ _),s,h=>rfl
 | .anyo k is alts (.test _ _ _ _ _),s,h=>rfl
 | .anyo k is alts (.anyo _ _ _ _),s,h=>rfl
 | .anyo k is alts (.seq _ _),s,h=>rfl
 | .anyo k is alts (.block _ _),s,h=>rfl
 | .anyo k is alts (.loop _ _ _ _),s,h=>rfl
 | .anyo k is alts (.mask _ _),s,h=>rfl
 | .anyo k is alts (.exit _),s,h=>rfl
 | .anyo k is alts .ret,s,h=>rfl
 | .seq a b,s,h=>by
  simp only[Bn] at h ⊢
  have o:(Bn T L a s).2.ok=b9:=by
   revert h;generalize Bn T L a s=r;intro h;obtain⟨e,s'⟩:=r;cases e
   ·have I:=EJ b h;exact I
   ·exact h
   ·exact h
  rw[Gz i a o];revert h;generalize Bn T L a s=r;intro h;obtain⟨e,s'⟩:=r;cases e
  ·exact Gz i b h
  ·rfl
  ·rfl
 | .cond c a b,s,h=>by
  simp only[Bn] at h ⊢;cases p:rd s c<;>rw[p] at h<;>simp only[Nl,fail] at h ⊢
  split at h
  ·rename_i j;rw[if_pos j,if_pos j];exact Gz i a h
  ·rename_i j;rw[if_neg j,if_neg j];exact Gz i b h
 | .block id a,s,h=>by
  simp only[Bn] at h ⊢
  have o:(Bn T L a s).2.ok=b9:=by
   revert h;generalize Bn T L a s=r;intro h;obtain⟨e,s'⟩:=r;cases e
   ·exact h
   ·simp only[Qz] at h;rw[AM] at h;split at h<;>exact h
   ·exact h
  rw[Gz i a o]
 | .loop keep out rt a,s,h=>by
  simp only[Bn] at h ⊢;exact dx (f:=Bn T L a) (f':=Bn T M a) (fun s hs=>Gz i a hs) (fun s hs=>EJ a hs) L M (keepS keep s) i h
 | .mask m a,s,h=>by
  simp only[Bn] at h ⊢;rw[Gz i a (Vy h)]
 | .exit _,_,_=>rfl
 | .ret,_,_=>rfl
theorem tr{fn:Bl}{modes:List Md}{args:List AV}{r:FU}(h:(Lc fn modes args r).ok=b9):r.2.ok=b9:=by
 obtain⟨e,s⟩:=r;cases e<;>simp only[Lc,ZZ,cb,baT] at h
 ·exact h.1
 ·cases h
 ·exact h.1
theorem dQ{T:Kc}{L M:Nat}(i:L<=M){fn:Bl}{modes:List Md}{args:List AV}(h:(OU T L fn modes args).ok=b9):OU T M fn modes args=OU T L fn modes args:=by
 simp only[OU,la,baT] at h ⊢;rw[Gz i fn.body (tr h.2)]
def fj(T:Kc)(fn:Bl)(modes:List Md)(args:List AV):Rs :=OU T (dc fun L=>(OU T L fn modes args).ok=b9) fn modes args
theorem fh{T:Kc}{L:Nat}{fn:Bl}{modes:List Md}{args:List AV}{r:Rs}(h:OU T L fn modes args=r)(j:r.ok=b9):fj T fn modes args=r:=by
 have C:(OU T L fn modes args).ok=b9:=by rw[h];exact j
 have o:(fj T fn modes args).ok=true:=Classical.epsilon_spec (p:=fun L=>(OU T L fn modes args).ok=b9) ⟨L,C⟩;unfold fj at o ⊢;generalize (dc fun L=>(OU T L fn modes args).ok=b9)=M at o ⊢;rw[← h];rcases gg L M with i|i
 ·exact dQ i C
 ·exact (dQ i o).symm
def Iw:List (Nat×Ar)->Kc
 | [],_=>c6
 | p::r,f=>bif f==p.1 then b8 p.2 else Iw r f
theorem NY{P:bI}:∀ {l:List (Nat×Ar)},(∀ p,p∈l->CF P p.1 p.2)->Kq P (Iw l)
 | [],_,f,C,h=>by simp[Iw] at h
 | p::r,hl,f,C,h=>by
  simp only[Iw,AM,beq_iff_eq] at h;split at h
  ·rename_i e;simp only[cl] at h;subst h;subst e;exact hl p (by simp)
  ·exact NY (fun q i=>hl q (by simp[i])) f C h
theorem fR{P:bI}:∀ p,p∈([]:List (Nat×Ar))->CF P p.1 p.2:=fun p h=>by simp at h
theorem Jo{P:bI}{f:Nat}{C:Ar}{l:List (Nat×Ar)}(h:CF P f C)(hl:∀ p,p∈l->CF P p.1 p.2):∀ p,p∈(f,C)::l->CF P p.1 p.2:=by
 intro p i;rcases ff.1 i with e|i
 ·subst e;exact h
 ·exact hl p i
def AGe(q:Rs):Rs:=⟨q.ok&&OJ q.r,q.r,q.outs⟩
def Xl(l:List (Nat×Ar))(fn:Bl)(modes:List Md):Ar:=⟨modes,be,fj (Iw l) fn modes⟩
def Cw(l:List (Nat×Ar))(fn:Bl)(modes:List Md):Ar:=⟨modes,b9,fun args=>AGe (fj (Iw l) fn modes args)⟩
def AIF(modes:List Md):Ar:=⟨modes,be,fun _=>cb⟩
theorem od{P:bI}{f:cn}{modes:List Md}:CF P f (AIF modes):=by
 unfold CF;exact⟨fun e=>c7 e,fun F g0 w args vargs o j p i=>by simp[AIF,cb] at i⟩
theorem AJf{l:List (Nat×Ar)}{fn:Bl}{modes:List Md}{args:List AV}(L:Nat){r:AV}{outs:List AV}(h:OU (Iw l) L fn modes args=⟨b9,r,outs⟩):(Xl l fn modes).F args=⟨b9,r,outs⟩:=fh h rfl
theorem AJg{l:List (Nat×Ar)}{fn:Bl}{modes:List Md}{args:List AV}(L:Nat){r:AV}{outs:List AV}(h:OU (Iw l) L fn modes args=⟨b9,r,outs⟩)(i:OJ r=b9):(Cw l fn modes).F args=⟨b9,r,outs⟩:=by
 simp only[Cw,AGe];rw[fh h rfl];simp[i]
theorem WA{P:bI}{T:Kc}{f:cn}{fn:Bl}{vm:List Nat}(I:Kq P T)(C:Sc P f fn vm=b9)(modes:List Md):CF P f ⟨modes,be,fj T fn modes⟩:=by
 unfold CF;refine⟨fun e=>c7 e,fun F g0 w args vargs j i p o=>?_⟩;exact (xQ I C (dc fun L=>(OU T L fn modes args).ok=b9) modes).2 F g0 w args vargs j i p o
theorem dZ{P:bI}{l:List (Nat×Ar)}{f:cn}{fn:Bl}{vm:List Nat}(modes:List Md)(hl:∀ p,p∈l->CF P p.1 p.2)(i:Sc P f fn vm=b9):CF P f (Xl l fn modes):=WA (NY hl) i modes
theorem sr{P:bI}{l:List (Nat×Ar)}{f:cn}{fn:Bl}{vm:List Nat}(modes:List Md)(hm:wL modes=b9)(hl:∀ p,p∈l->CF P p.1 p.2)(I:Sc P f fn vm=b9):CF P f (Cw l fn modes):=by
 have h:=WA (NY hl) I modes;unfold CF at h ⊢;refine⟨fun _=>hm,fun F g0 w args vargs o j C i=>?_⟩;simp only[Cw,AGe,baT] at i ⊢;exact⟨fun _=>i.2,(h.2 F g0 w args vargs o j C i.1).2⟩
def mkZ(l:List (Nat×Ar))(fn:Bl)(modes:List Md):Ar:=⟨modes,be,fun args=>⟨(fj (Iw l) fn modes args).ok,QU (fj (Iw l) fn modes args).r,(fj (Iw l) fn modes args).outs⟩⟩
theorem ACV{l:List (Nat×Ar)}{fn:Bl}{modes:List Md}{args:List AV}{r:AV}{outs:List AV}(h:∃ j,∀ L,j<=L->AKM (OU (Iw l) L fn modes args)=⟨b9,r,outs⟩):(mkZ l fn modes).F args=⟨b9,r,outs⟩:=by
 obtain⟨L,h⟩:=h;have h:=h L (cf _);have i:(OU (Iw l) L fn modes args).ok=true:=congrArg Rs.ok h;simp only[mkZ];rw[fh (r:=OU (Iw l) L fn modes args) rfl i];exact h
def IG(p:Nat->Bool):Cp->Cp
 | []=>[]
 | q::r=>bif p q.1 then IG p r else q::IG p r
theorem UQ(p:Nat->Bool)(k:Nat):∀ ob:Cp,AK k (IG p ob)=if p k=b9 then c6 else AK k ob
 | []=>by simp[IG,AK]
 | q::r=>by
  have C:=UQ p k r
  by_cases o:p q.1=b9
  ·by_cases j:p k=b9
   ·simp[IG,AM,o,j,C]
   ·have i:q.1≠k:=fun e=>j (e▸o)
    simp[IG,AK,AM,o,j,C,i]
  ·by_cases j:p k=b9
   ·have i:q.1≠k:=fun e=>o (e▸j)
    simp[IG,AK,AM,o,j,C,i]
   ·simp[IG,AK,AM,o,j,C]
theorem tl(a:AV):JH (XR a)=be:=by cases a<;>rfl
theorem Px{r:AV}{i:Nat}(h:Jk (QU r) i):False:=by
 cases r
 case tup cs=>
  obtain⟨j,_,p,o⟩:=h;have:(cs.map XR).getD j .any=XR (cs.getD j .any):=Bv _ rfl _ _;rw[this,tl] at o;cases o
 all_goals
  simp only[QU,XR,Jk,JH] at h;first|exact absurd h.2 bR|(simp at h)
open Classical in
theorem Zz{F:Nat->Prop}{g0 g:Gh}{w w':cI}{args:List AV}{modes:List Md}{v:Value}{r:AV}{outs:List AV}{ob:Cp}{κ:Nat->Nat}
  (B:bu F g0 args modes w v w' r outs g ob κ):bu F g0 args modes w v w' (QU r) outs g (IG (fun k=>decide (∃ i,Jk r i∧κ i=k)) ob) κ:=by
 have R:∀ k,AK k (IG (fun k=>decide (∃ i,Jk r i∧κ i=k)) ob)=if (∃ i,Jk r i∧κ i=k) then c6 else AK k ob:=by
  intro k;rw[UQ];simp
 have o:∀ k h,AK k (IG (fun k=>decide (∃ i,Jk r i∧κ i=k)) ob)=b8 h->AK k ob=b8 h∧¬ ∃ i,Jk r i∧κ i=k:=by
  intro k h I;rw[R] at I;split at I
  ·cases I
  ·rename_i hn;exact⟨I,hn⟩
 have C:∀ k,KY (IG (fun k=>decide (∃ i,Jk r i∧κ i=k)) ob) k->KY ob k:=fun k ⟨h,I⟩=>⟨h,(o k h I).1⟩
 have p:∀ b,AS F g (IG (fun k=>decide (∃ i,Jk r i∧κ i=k)) ob) b->AS F g ob b:=fun b hb=>Ii C hb
 have one:∀ {i:Nat} {u:Value} {a:AV},(JH a=b9->Jk r i)->uf (AS F g ob) w' g ob (κ i) u a->uf (AS F g (IG (fun k=>decide (∃ i,Jk r i∧κ i=k)) ob)) w' g (IG (fun k=>decide (∃ i,Jk r i∧κ i=k)) ob) (κ i) u (XR a):=by
  intro i u a hf hu
  have blk:∀ {sz:Nat} {els:List AV},Jk r i->AK (κ i) ob=b8 ⟨sz,els⟩->VR (AS F g (IG (fun k=>decide (∃ i,Jk r i∧κ i=k)) ob)) w' (.slice (b8 ⟨g.β (κ i),0,c6⟩) els.length (g.cap (κ i))) (.sl sz els)∧(g.cap (κ i)=0->VR (AS F g (IG (fun k=>decide (∃ i,Jk r i∧κ i=k)) ob)) w' (.slice c6 0 0) (.sl sz els))∧∀ i0 off,i0<els.length->VR (AS F g (IG (fun k=>decide (∃ i,Jk r i∧κ i=k)) ob)) w' (.pointer (b8 ⟨g.β (κ i),i0*sz+off,c6⟩)) (.ptr sz els i0 off):=fun {sz els} av I=>by
   have hH:=B.home (κ i) ⟨sz,els⟩ I;obtain⟨rr,U⟩:=hH.cell
   exact hH.sl (S':=AS F g (IG (fun k=>decide (∃ i,Jk r i∧κ i=k)) ob)) U p fun hp c=>by
    have hl:Ma g ob (κ i):=⟨⟨_,I⟩,hp⟩;rcases c with c|⟨k,hk,e⟩
    ·exact B.nF _ hl c
    ·obtain⟨⟨h',au⟩,aj⟩:=hk;obtain⟨h1,h2⟩:=o k h' au;have:=B.inj k (κ i) ⟨⟨h',h1⟩,aj⟩ hl e;exact h2 ⟨i,av,this.symm⟩
  cases a
  case fresh sz els=>
   obtain⟨q1,q2,_⟩:=blk (hf rfl) hu.1;show VR _ _ _ _;rcases hu.2 with e|⟨e0,e⟩
   ·rw[e];exact q1
   ·rw[e];exact q2 e0
  case mem sz els ix=>
   obtain⟨_,_,q3⟩:=blk (hf rfl) hu.1;obtain⟨_,a7,e⟩:=hu;have:=q3 0 0 (by omega);rw[gb,c'] at this;rw[e];exact this
  all_goals exact VR.mono (AG.refl _ _) (fun b _ c=>p b c) hu
 refine⟨B.same,fun k h I=>(B.home k h (o k h I).1).mono (AG.refl _ _) (fun _=>rfl) fun b _ c=>p b c,fun k k' a b=>B.inj k k' ⟨C k a.1,a.2⟩ ⟨C k' b.1,b.2⟩,fun k a=>B.nF k ⟨C k a.1,a.2⟩,fun k a=>B.hio k ⟨C k a.1,a.2⟩,?_,
  fun i j hi _ _=>(Px hi).elim,fun i j hi _ _=>(Px hi).elim,fun j hj=>?_⟩
 ·have J:=B.val;cases r
  case tup cs=>
   obtain⟨vs,rfl,hn,ad⟩:=J;refine⟨vs,rfl,by simpa using hn,fun j hj=>?_⟩;have ac:j<cs.length:=by simpa using hj
   have e:(cs.map XR).getD j .any=XR (cs.getD j .any):=Bv _ rfl _ _;rw[e];exact one (fun hf=>⟨j,rfl,ac,hf⟩) (ad j ac)
  all_goals exact one (fun hf=>⟨rfl,hf⟩) J
 ·obtain⟨sz,e0,els,h1,h2,h3,h4⟩:=B.out j hj;refine⟨sz,e0,els,h1,h2,?_,h4⟩;rw[R,if_neg]
  ·exact h3
  ·rintro⟨i,hi,e⟩;exact B.κio i j hi hj e
theorem sn{P:bI}{l:List (Nat×Ar)}{f:cn}{fn:Bl}{vm:List Nat}(modes:List Md)(hl:∀ p,p∈l->CF P p.1 p.2)(J:Sc P f fn vm=b9):CF P f (mkZ l fn modes):=by
 have h:=WA (NY hl) J modes;unfold CF at h ⊢;refine⟨fun e=>c7 e,fun F g0 w args vargs o j C i=>?_⟩;simp only[mkZ] at i ⊢;refine⟨fun e=>c7 e,((h.2 F g0 w args vargs o j C i).2).mono fun e w' I=>?_⟩;obtain⟨v,g,ob,κ,I,B⟩:=I;exact⟨v,g,_,κ,I,Zz B⟩
theorem WB{b:Bool}{P:bI}{f:cn}{C:Ar}{fu:gj}{c:Code}(hC:CF P f C)(hf:P.funcs[f]? = b8 fu)(p:fu.body=b8 c)(hn:(fu.name == "runtime.NumGoroutine")=be)
  {args:List AV} {vargs:Array Value} {w:cI} (ac:vargs.size=args.length) (aj:Fh C.modes args=b9) (R:args.all (fun a=>!Hk a)=b9) (hv:∀ j,j<args.length->VR (fun _=>False) w (vargs.getD j b') (args.getD j .any)) (au:GT (fun _=>False) w) {outs:List AV}
  (hF:C.F args=⟨b9,.bool b,outs⟩):Calls P f vargs w fun e w'=>e = .returned (.bool b)∧AG (fun _=>False) w w':=by
 have o:∀ j,Hk (args.getD j .any)=be:=by
  intro j;simp only[cS,ek] at R;rw[gdE];cases hj:args[j]? with
  | none=>rfl
  | some a=>exact R a (e9 hj)
 have ao:∀ k,AK k (BR 0 args)=c6:=by
  intro k;cases hg:AK k (BR 0 args) with
  | none=>rfl
  | some hm=>
   obtain⟨j,_,hf⟩:=Nh hg;have:=o j;revert hf this;generalize args.getD j .any=x;intro hf this;cases x<;>simp[Ie,Hk] at hf this
 have i:∀ k,¬ KY (BR 0 args) k:=fun k ⟨hm,hg⟩=>by rw[ao k] at hg;cases hg
 have av:FR (fun _=>False) ⟨fun _=>0,fun _=>0⟩ w vargs (ct args.length) [] (Np args):=by
  refine⟨fun k hm hg=>(i k ⟨hm,hg⟩).elim,fun k _ I=>(i k I.1).elim,fun k I=>(i k I.1).elim,fun b p=>p.elim,by simp[Np,Kl],rfl,fun j hj=>?_,fun j hj=>by simp at hj,fun t ht=>?_,au.mono (AG.refl _ _) fun b _ p=>?_⟩
  ·have U:j<args.length:=by simpa using hj
   have e1:(ct args.length).getD j 0=j:=by rw[gdE,cm U];rfl
   rw[e1];simp only[Np];rw[Lv _ 0 j U,c']
   have e2:ZM j (args.getD j .any)=args.getD j .any:=by
    have:=o j;revert this;generalize args.getD j .any=x;intro this;cases x<;>first|rfl|(simp[Hk] at this)
   rw[e2];refine ((hv j U).mono (AG.refl _ _) fun b _ p=>?_).toSR;rcases p with p|⟨k,I,_⟩
   ·exact p
   ·exact i k I.1
  ·rcases ht with ht|ht
   ·rw[ac];simpa using ht
   ·simp at ht
  ·rcases p with p|⟨k,I,_⟩
   ·exact p
   ·exact i k I.1
 have h:=(hC.2 _ _ w args vargs aj ac av (by rw[hF])).2;rw[hF] at h;unfold DD at h;rw[Mw hf p hn] at h;refine Calls.mono h fun e w' he=>?_
 obtain⟨v,g,ob,κ,rfl,B⟩:=he;have J:=B.val;simp only[RV,uf] at J;refine⟨?_,B.same.mono fun b _ ⟨k,I,_⟩=>(i k I.1).elim⟩;cases J
 rfl
theorem wh{P:bI}{f:cn}{C:Ar}{fu:gj}{c:Code}(hC:CF P f C)(U:P.funcs[f]? = b8 fu)(hb:fu.body=b8 c)(R:(fu.name == "runtime.NumGoroutine")=be)
  {args:List AV} {vargs:Array Value} {w:cI} (o:vargs.size=args.length) (p:Fh C.modes args=b9) (i:args.all (fun a=>!Hk a)=b9) (J:∀ j,j<args.length->VR (fun _=>False) w (vargs.getD j b') (args.getD j .any)) (I:GT (fun _=>False) w) {outs:List AV}
  (hF:C.F args=⟨b9,.bool b9,outs⟩):Calls P f vargs w fun e w'=>e = .returned (.bool b9)∧AG (fun _=>False) w w' :=
 WB hC U hb R o p i J I hF
end Go.Proofs.YtegmpdmpgmpiaaaGreatDoor
namespace Go.Proofs.YtegmpdmpgmpiaaaGreatDoor
open Go Go.RowKit Go.ChangeShapes Go.WideShapes Go.ChangeAt
theorem AG.kept{w w':cI}(h:AG (fun _=>False) w w')(j:MemPlace->Prop):w.keptBut w' j:=by
 refine⟨h.os,h.output,fun i hi=>?_⟩;rw[h.block i hi fun c=>c];cases p:w.heap[i]? with
 | none=>rfl
 | some o=>cases o<;>first|exact⟨rfl,rfl,rfl,fun _ _=>rfl⟩|exact .inr ⟨rfl,rfl⟩|rfl
theorem AG.frozen{w w':cI}(h:AG (fun _=>False) w w'){b off:Nat}(i:b<w.heap.size):w'.frozen? ⟨b,off,c6⟩=w.frozen? ⟨b,off,c6⟩:=by
 simp only[World.frozen?,h.block b i fun c=>c]
section
variable {P:bI}{H:Type}{enc:TypeId×Value->H}
theorem sX{f:gj}{s:ChangeSpec}{R fresh J ab:Bool}{W W':cI}{args:Array Value}{v:Value}{ds gs:List (DataW H)}{i pa pv:List MemPlace}
  (hW:DataW.Whole enc P f.params.toList s.vars R W args.toList ds gs i) (hs:AG (fun _=>False) W W')
  (U:∀ (b:Nat) (sp:Nat->Bool) (hd:Bool),DataW.TrodAll enc P W' b sp hd f.resultTypes.toList (v.resultList f.resultTypes.size) (s.fn H (ds++gs)).results [])
  (I:∀ sp:Nat->Bool,(∀ p∈i,sp p.block=b9)->DataW.TrodAll enc P W' 0 sp b9 f.params.toList args.toList (s.fn H (ds++gs)).args pa)
  (C:∀ sp:Nat->Bool,(∀ p∈i,sp p.block=b9)->DataW.TrodVars enc P W' sp s.vars (s.fn H (ds++gs)).vars pv)
  (ao:i=pa++pv)
  (au:∀ (j:Nat) (t:TypeId) (r:Value),f.resultTypes[j]? = b8 t->(v.resultList f.resultTypes.size)[j]? = b8 r->Value.okWide P W' .any 0 t r) :
  s.post enc P f R fresh J ab W args v W':=by
 have aj:=hW.lt;have o:∀ p∈i,(fun b=>decide (b<W.heap.size)) p.block=true:=fun p hp=>by simpa using aj p hp
 have whole:=hW;obtain⟨_,_,_,_,_,hz,hn⟩:=whole;subst ao;refine⟨ds,gs,pa++pv,[],pa,pv,hW,U _ _ _,I _ o,C _ o,hs.kept _,fun _=>⟨au,_,_,([]++pa)++pv,⟨[]++pa,pv,trodAll_append (I _ fun _ _=>rfl) (U _ _ _),C _ fun _ _=>rfl,rfl,fun b off hp=>?_,fun ha=>by simpa using hn ha⟩,fun p hp _=>by simpa using hp⟩⟩;have ad:MemPlace.cell b off∈pa++pv:=by simpa using hp
 have av:b<W.heap.size:=aj _ ad;rw[hs.frozen av];exact hz b off ad
end
end Go.Proofs.YtegmpdmpgmpiaaaGreatDoor
namespace Go.Proofs.YtegmpdmpgmpiaaaGreatDoor
open Go
theorem uK(x:Rs):la b9 x=x:=rfl
theorem imp2(a:Bool):(!a||a)=b9:=by cases a<;>rfl
theorem uT(a:Bool):(a==b9)=a:=by cases a<;>rfl
theorem oc(a:Bool):(a==be) = !a:=by cases a<;>rfl
theorem AGo(a b:Bool):(bif a then b else be)=(a&&b):=by cases a<;>rfl
theorem AGn(a b:Bool):(bif a then b9 else b)=(a||b):=by cases a<;>rfl
theorem XO{α:Type}(a b:α):(bif b9 then a else b)=a:=rfl
theorem Vm{α:Type}(a b:α):(bif be then a else b)=b:=rfl
attribute [go_sem] uK imp2 uT oc AGo AGn XO Vm
attribute [go_sem] jV cb AV.names AV.kill AV.atoms bad Ds Fp Gq Fm Bh ja cut XT SP Zm clear Sk Dr fail apart killAll Tf PR Km DI Tk Ky OI Pj YS Lk OW nZ Db drop keepB WT canonK lc keepS Vs slots rU Us Th AD WF AKM gF ZZ fits la OU
attribute [go_sem] AV.cells.eq_1 AV.cells.eq_2 AV.cells.eq_3 AV.cells.eq_4 AV.cells.eq_5 AV.cells.eq_6 AV.cells.eq_7 AV.cells.eq_8 AV.cells.eq_9 AV.cells.eq_10 AV.cells.eq_11 AV.cells.eq_12 AV.cells.eq_13 AV.cells.eq_14 AV.cells.eq_15 AV.cells.eq_16
attribute [go_sem] AV.isAgg.eq_1 AV.isAgg.eq_2
attribute [go_sem] rd.eq_1 rd.eq_2 rd.eq_3
attribute [go_sem] AK.eq_1 AK.eq_2
attribute [go_sem] DA.eq_1 DA.eq_2
attribute [go_sem] LQ.eq_1 LQ.eq_2
attribute [go_sem] AV.key1.eq_1 AV.key1.eq_2 AV.key1.eq_3 AV.key1.eq_4 AV.key1.eq_5 AV.key1.eq_6 AV.key1.eq_7 AV.key1.eq_8 AV.key1.eq_9 AV.key1.eq_10 AV.key1.eq_11 AV.key1.eq_12 AV.key1.eq_13 AV.key1.eq_14 AV.key1.eq_15 AV.key1.eq_16
attribute [go_sem] AV.keys.eq_1 AV.keys.eq_2 AV.keys.eq_3 AV.keys.eq_4 AV.keys.eq_5 AV.keys.eq_6 AV.keys.eq_7 AV.keys.eq_8 AV.keys.eq_9 AV.keys.eq_10 AV.keys.eq_11 AV.keys.eq_12 AV.keys.eq_13 AV.keys.eq_14 AV.keys.eq_15 AV.keys.eq_16
attribute [go_sem] AV.fz1.eq_1 AV.fz1.eq_2 AV.fz1.eq_3 AV.fz1.eq_4 AV.fz1.eq_5 AV.fz1.eq_6 AV.fz1.eq_7 AV.fz1.eq_8 AV.fz1.eq_9 AV.fz1.eq_10 AV.fz1.eq_11 AV.fz1.eq_12 AV.fz1.eq_13 AV.fz1.eq_14 AV.fz1.eq_15 AV.fz1.eq_16
attribute [go_sem] AV.fz.eq_1 AV.fz.eq_2 AV.fz.eq_3 AV.fz.eq_4 AV.fz.eq_5 AV.fz.eq_6 AV.fz.eq_7 AV.fz.eq_8 AV.fz.eq_9 AV.fz.eq_10 AV.fz.eq_11 AV.fz.eq_12 AV.fz.eq_13 AV.fz.eq_14 AV.fz.eq_15 AV.fz.eq_16
attribute [go_sem] freezeH.eq_1 freezeH.eq_2
attribute [go_sem] freezeAll.eq_1 freezeAll.eq_2
attribute [go_sem] vH.eq_1 vH.eq_2
attribute [go_sem] jy.eq_1 jy.eq_2
attribute [go_sem] AV.dv1.eq_1 AV.dv1.eq_2 AV.dv1.eq_3 AV.dv1.eq_4 AV.dv1.eq_5 AV.dv1.eq_6 AV.dv1.eq_7 AV.dv1.eq_8 AV.dv1.eq_9 AV.dv1.eq_10 AV.dv1.eq_11 AV.dv1.eq_12 AV.dv1.eq_13 AV.dv1.eq_14 AV.dv1.eq_15 AV.dv1.eq_16
attribute [go_sem] AV.dv.eq_1 AV.dv.eq_2 AV.dv.eq_3 AV.dv.eq_4 AV.dv.eq_5 AV.dv.eq_6 AV.dv.eq_7 AV.dv.eq_8 AV.dv.eq_9 AV.dv.eq_10 AV.dv.eq_11 AV.dv.eq_12 AV.dv.eq_13 AV.dv.eq_14 AV.dv.eq_15 AV.dv.eq_16
attribute [go_sem] AV.atom.eq_1 AV.atom.eq_2 AV.atom.eq_3 AV.atom.eq_4 AV.atom.eq_5 AV.atom.eq_6 AV.atom.eq_7 AV.atom.eq_8 AV.atom.eq_9 AV.atom.eq_10 AV.atom.eq_11 AV.atom.eq_12 AV.atom.eq_13 AV.atom.eq_14 AV.atom.eq_15 AV.atom.eq_16
attribute [go_sem] AV.simple.eq_1 AV.simple.eq_2 AV.simple.eq_3 AV.simple.eq_4 AV.simple.eq_5 AV.simple.eq_6 AV.simple.eq_7 AV.simple.eq_8 AV.simple.eq_9 AV.simple.eq_10 AV.simple.eq_11 AV.simple.eq_12 AV.simple.eq_13 AV.simple.eq_14 AV.simple.eq_15 AV.simple.eq_16
attribute [go_sem] part.eq_1 part.eq_2
attribute [go_sem] EH.eq_1 EH.eq_2
attribute [go_sem] AV.like.eq_1 AV.like.eq_2 AV.like.eq_3
attribute [go_sem] Jd.eq_1 Jd.eq_2 Jd.eq_3 Jd.eq_4 Jd.eq_5 Jd.eq_6 Jd.eq_7 Jd.eq_8 Jd.eq_9 Jd.eq_10 Jd.eq_11 Jd.eq_12 Jd.eq_13 Jd.eq_14 Jd.eq_15 Jd.eq_16
attribute [go_sem] DQ.eq_1 DQ.eq_2 DQ.eq_3 DQ.eq_4 DQ.eq_5 DQ.eq_6 DQ.eq_7 DQ.eq_8 DQ.eq_9 DQ.eq_10 DQ.eq_11 DQ.eq_12 DQ.eq_13 DQ.eq_14 DQ.eq_15 DQ.eq_16
attribute [go_sem] Yo.eq_1 Yo.eq_2 Yo.eq_3 Yo.eq_4
attribute [go_sem] NV.eq_1 NV.eq_2
attribute [go_sem] Nv.eq_1 Nv.eq_2 Nv.eq_3 Nv.eq_4 Nv.eq_5 Nv.eq_6 Nv.eq_7 Nv.eq_8 Nv.eq_9 Nv.eq_10 Nv.eq_11 Nv.eq_12 Nv.eq_13 Nv.eq_14 Nv.eq_15 Nv.eq_16 Nv.eq_17
attribute [go_sem] Ve.eq_1 Ve.eq_2 Ve.eq_3 Ve.eq_4 Ve.eq_5 Ve.eq_6 Ve.eq_7 Ve.eq_8
attribute [go_sem] fH.eq_1 fH.eq_2 fH.eq_3
attribute [go_sem] er.eq_1 er.eq_2 er.eq_3
attribute [go_sem] Zx.eq_1 Zx.eq_2 Zx.eq_3 Zx.eq_4
attribute [go_sem] eq1.eq_1 eq1.eq_2 eq1.eq_3 eq1.eq_4
attribute [go_sem] eY.eq_1 eY.eq_2 eY.eq_3 eY.eq_4
attribute [go_sem] ML.eq_1 ML.eq_2
attribute [go_sem] JS.eq_1 JS.eq_2 JS.eq_3
attribute [go_sem] RN.eq_1 RN.eq_2
attribute [go_sem] zW.eq_1 zW.eq_2 zW.eq_3 zW.eq_4 zW.eq_5
attribute [go_sem] QH.eq_1 QH.eq_2
attribute [go_sem] Ix.eq_1 Ix.eq_2
attribute [go_sem] bz.eq_1 bz.eq_2
attribute [go_sem] kM.eq_1 kM.eq_2
attribute [go_sem] OE.eq_1 OE.eq_2 OE.eq_3
attribute [go_sem] OX.eq_1 OX.eq_2 OX.eq_3 OX.eq_4
attribute [go_sem] Zh.eq_1 Zh.eq_2
attribute [go_sem] ml.eq_1 ml.eq_2
attribute [go_sem] pO.eq_1 pO.eq_2
attribute [go_sem] XU.eq_1 XU.eq_2 XU.eq_3 XU.eq_4
attribute [go_sem] pk.eq_1 pk.eq_2
attribute [go_sem] XP.eq_1 XP.eq_2 XP.eq_3 XP.eq_4 XP.eq_5
attribute [go_sem] KR.eq_1 KR.eq_2
attribute [go_sem] NT.eq_1 NT.eq_2 NT.eq_3 NT.eq_4
attribute [go_sem] MV.eq_1 MV.eq_2 MV.eq_3
attribute [go_sem] pq.eq_1 pq.eq_2
attribute [go_sem] LT.eq_1 LT.eq_2 LT.eq_3
attribute [go_sem] Qx.eq_1 Qx.eq_2
attribute [go_sem] lK.eq_1 lK.eq_2
attribute [go_sem] Za.eq_1 Za.eq_2
attribute [go_sem] RI.eq_1 RI.eq_2
attribute [go_sem] OS.eq_1 OS.eq_2
attribute [go_sem] setOk.eq_1 setOk.eq_2
attribute [go_sem] mm2.eq_1 mm2.eq_2
attribute [go_sem] WJ.eq_1 WJ.eq_2
attribute [go_sem] fk.eq_1 fk.eq_2
attribute [go_sem] wb.eq_1 wb.eq_2
attribute [go_sem] Yr.eq_1 Yr.eq_2
attribute [go_sem] AQ.eq_1 AQ.eq_2 AQ.eq_3 AQ.eq_4 AQ.eq_5 AQ.eq_6 AQ.eq_7 AQ.eq_8 AQ.eq_9 AQ.eq_10 AQ.eq_11 AQ.eq_12 AQ.eq_13 AQ.eq_14 AQ.eq_15 AQ.eq_16 AQ.eq_17 AQ.eq_18 AQ.eq_19 AQ.eq_20 AQ.eq_21 AQ.eq_22 AQ.eq_23 AQ.eq_24 AQ.eq_25 AQ.eq_26 AQ.eq_27 AQ.eq_28 AQ.eq_29 AQ.eq_30 AQ.eq_31 AQ.eq_32 AQ.eq_33 AQ.eq_34 AQ.eq_35 AQ.eq_36
attribute [go_sem] tj.eq_1 tj.eq_2 tj.eq_3
attribute [go_sem] xO.eq_1 xO.eq_2
attribute [go_sem] Nq.eq_1 Nq.eq_2 Nq.eq_3 Nq.eq_4
attribute [go_sem] Lh.eq_1 Lh.eq_2 Lh.eq_3 Lh.eq_4
attribute [go_sem] adopt.eq_1 adopt.eq_2 adopt.eq_3 adopt.eq_4 adopt.eq_5 adopt.eq_6 adopt.eq_7 adopt.eq_8 adopt.eq_9 adopt.eq_10 adopt.eq_11 adopt.eq_12 adopt.eq_13 adopt.eq_14 adopt.eq_15 adopt.eq_16
attribute [go_sem] aF.eq_1 aF.eq_2 aF.eq_3
attribute [go_sem] Fo.eq_1 Fo.eq_2
attribute [go_sem] BE.eq_1 BE.eq_2 BE.eq_3 BE.eq_4
attribute [go_sem] Ej.eq_1 Ej.eq_2
attribute [go_sem] RB.eq_1 RB.eq_2
attribute [go_sem] UG.eq_1 UG.eq_2
attribute [go_sem] Kg.eq_1 Kg.eq_2
attribute [go_sem] nM.eq_1 nM.eq_2
attribute [go_sem] TR.eq_1 TR.eq_2
attribute [go_sem] LA.eq_1 LA.eq_2 LA.eq_3 LA.eq_4
attribute [go_sem] Hk.eq_1 Hk.eq_2 Hk.eq_3 Hk.eq_4 Hk.eq_5 Hk.eq_6 Hk.eq_7 Hk.eq_8 Hk.eq_9 Hk.eq_10 Hk.eq_11 Hk.eq_12 Hk.eq_13 Hk.eq_14 Hk.eq_15 Hk.eq_16
attribute [go_sem] ZD.eq_1 ZD.eq_2
attribute [go_sem] Fh.eq_1 Fh.eq_2 Fh.eq_3 Fh.eq_4 Fh.eq_5
attribute [go_sem] EZ.eq_1 EZ.eq_2 EZ.eq_3
attribute [go_sem] Bc.eq_1 Bc.eq_2
attribute [go_sem] Bd.eq_1 Bd.eq_2 Bd.eq_3 Bd.eq_4
attribute [go_sem] FJ.eq_1 FJ.eq_2 FJ.eq_3 FJ.eq_4
attribute [go_sem] Eb.eq_1 Eb.eq_2
attribute [go_sem] Ag.eq_1 Ag.eq_2 Ag.eq_3 Ag.eq_4 Ag.eq_5 Ag.eq_6 Ag.eq_7
attribute [go_sem] OM.eq_1 OM.eq_2
attribute [go_sem] Zn.eq_1 Zn.eq_2
attribute [go_sem] Sn.eq_1 Sn.eq_2
attribute [go_sem] LJ.eq_1 LJ.eq_2
attribute [go_sem] dK.eq_1 dK.eq_2
attribute [go_sem] Cv.eq_1 Cv.eq_2 Cv.eq_3 Cv.eq_4 Cv.eq_5
attribute [go_sem] WX.eq_1 WX.eq_2
attribute [go_sem] TX.eq_1 TX.eq_2 TX.eq_3
attribute [go_sem] DO.eq_1 DO.eq_2 DO.eq_3 DO.eq_4 DO.eq_5 DO.eq_6
attribute [go_sem] AV.lone.eq_1 AV.lone.eq_2 AV.lone.eq_3 AV.lone.eq_4 AV.lone.eq_5 AV.lone.eq_6 AV.lone.eq_7 AV.lone.eq_8 AV.lone.eq_9 AV.lone.eq_10 AV.lone.eq_11 AV.lone.eq_12 AV.lone.eq_13 AV.lone.eq_14 AV.lone.eq_15 AV.lone.eq_16
attribute [go_sem] BO.eq_1 BO.eq_2 BO.eq_3 BO.eq_4 BO.eq_5 BO.eq_6 BO.eq_7 BO.eq_8 BO.eq_9 BO.eq_10 BO.eq_11 BO.eq_12 BO.eq_13 BO.eq_14 BO.eq_15 BO.eq_16 BO.eq_17 BO.eq_18 BO.eq_19 BO.eq_20 BO.eq_21 BO.eq_22 BO.eq_23 BO.eq_24 BO.eq_25 BO.eq_26
attribute [go_sem] Ax.eq_1 Ax.eq_2 Ax.eq_3 Ax.eq_4 Ax.eq_5 Ax.eq_6 Ax.eq_7 Ax.eq_8 Ax.eq_9 Ax.eq_10 Ax.eq_11 Ax.eq_12 Ax.eq_13 Ax.eq_14 Ax.eq_15 Ax.eq_16 Ax.eq_17 Ax.eq_18 Ax.eq_19 Ax.eq_20 Ax.eq_21 Ax.eq_22 Ax.eq_23 Ax.eq_24 Ax.eq_25
attribute [go_sem] KP.eq_1 KP.eq_2 KP.eq_3
attribute [go_sem] Du.eq_1 Du.eq_2 Du.eq_3 Du.eq_4 Du.eq_5 Du.eq_6 Du.eq_7 Du.eq_8 Du.eq_9 Du.eq_10 Du.eq_11 Du.eq_12 Du.eq_13 Du.eq_14 Du.eq_15 Du.eq_16
attribute [go_sem] Jv.eq_1 Jv.eq_2 Jv.eq_3 Jv.eq_4 Jv.eq_5 Jv.eq_6 Jv.eq_7 Jv.eq_8 Jv.eq_9
attribute [go_sem] FZ.eq_1 FZ.eq_2 FZ.eq_3
attribute [go_sem] VZ.eq_1 VZ.eq_2
attribute [go_sem] LI.eq_1 LI.eq_2
attribute [go_sem] Fy.eq_1 Fy.eq_2 Fy.eq_3 Fy.eq_4 Fy.eq_5 Fy.eq_6 Fy.eq_7 Fy.eq_8 Fy.eq_9 Fy.eq_10 Fy.eq_11 Fy.eq_12 Fy.eq_13 Fy.eq_14 Fy.eq_15 Fy.eq_16 Fy.eq_17
attribute [go_sem] Qu.eq_1 Qu.eq_2 Qu.eq_3
attribute [go_sem] KO.eq_1 KO.eq_2 KO.eq_3 KO.eq_4 KO.eq_5
attribute [go_sem] EW.eq_1 EW.eq_2 EW.eq_3 EW.eq_4 EW.eq_5
attribute [go_sem] Ll.eq_1 Ll.eq_2 Ll.eq_3 Ll.eq_4 Ll.eq_5 Ll.eq_6 Ll.eq_7 Ll.eq_8 Ll.eq_9 Ll.eq_10 Ll.eq_11 Ll.eq_12 Ll.eq_13 Ll.eq_14 Ll.eq_15 Ll.eq_16
attribute [go_sem] Lw.eq_1 Lw.eq_2
attribute [go_sem] Cu.eq_1 Cu.eq_2 Cu.eq_3 Cu.eq_4 Cu.eq_5 Cu.eq_6 Cu.eq_7 Cu.eq_8 Cu.eq_9 Cu.eq_10 Cu.eq_11 Cu.eq_12 Cu.eq_13 Cu.eq_14 Cu.eq_15 Cu.eq_16 Cu.eq_17 Cu.eq_18 Cu.eq_19 Cu.eq_20 Cu.eq_21 Cu.eq_22 Cu.eq_23 Cu.eq_24 Cu.eq_25 Cu.eq_26 Cu.eq_27 Cu.eq_28 Cu.eq_29 Cu.eq_30 Cu.eq_31 Cu.eq_32 Cu.eq_33 Cu.eq_34 Cu.eq_35 Cu.eq_36
attribute [go_sem] yu.eq_1 yu.eq_2
attribute [go_sem] Xo.eq_1 Xo.eq_2
attribute [go_sem] kv.eq_1 kv.eq_2 kv.eq_3
attribute [go_sem] RF.eq_1 RF.eq_2 RF.eq_3
attribute [go_sem] VX.eq_1 VX.eq_2 VX.eq_3
attribute [go_sem] Dn.eq_1 Dn.eq_2 Dn.eq_3 Dn.eq_4
attribute [go_sem] Mp.eq_1 Mp.eq_2
attribute [go_sem] WE.eq_1 WE.eq_2
attribute [go_sem] GB.eq_1 GB.eq_2
attribute [go_sem] Ja.eq_1 Ja.eq_2 Ja.eq_3
attribute [go_sem] Qw.eq_1 Qw.eq_2
attribute [go_sem] ddp.eq_1 ddp.eq_2
attribute [go_sem] pS.eq_1 pS.eq_2
attribute [go_sem] AV.re1.eq_1 AV.re1.eq_2 AV.re1.eq_3 AV.re1.eq_4 AV.re1.eq_5 AV.re1.eq_6 AV.re1.eq_7 AV.re1.eq_8 AV.re1.eq_9 AV.re1.eq_10 AV.re1.eq_11 AV.re1.eq_12 AV.re1.eq_13 AV.re1.eq_14 AV.re1.eq_15 AV.re1.eq_16
attribute [go_sem] AV.re.eq_1 AV.re.eq_2 AV.re.eq_3 AV.re.eq_4 AV.re.eq_5 AV.re.eq_6 AV.re.eq_7 AV.re.eq_8 AV.re.eq_9 AV.re.eq_10 AV.re.eq_11 AV.re.eq_12 AV.re.eq_13 AV.re.eq_14 AV.re.eq_15 AV.re.eq_16
attribute [go_sem] dU.eq_1 dU.eq_2
attribute [go_sem] fU.eq_1 fU.eq_2
attribute [go_sem] oJ.eq_1 oJ.eq_2
attribute [go_sem] KM.eq_1 KM.eq_2 KM.eq_3
attribute [go_sem] Qz.eq_1 Qz.eq_2 Qz.eq_3
attribute [go_sem] Nl.eq_1 Nl.eq_2
attribute [go_sem] KQ.eq_1 KQ.eq_2 KQ.eq_3
attribute [go_sem] UT.eq_1 UT.eq_2 UT.eq_3
attribute [go_sem] RW.eq_1 RW.eq_2
attribute [go_sem] Bn.eq_1 Bn.eq_2 Bn.eq_3 Bn.eq_4 Bn.eq_5 Bn.eq_6 Bn.eq_7 Bn.eq_8 Bn.eq_9 Bn.eq_10 Bn.eq_11 Bn.eq_12 Bn.eq_13
attribute [go_sem] Mi.eq_1 Mi.eq_2 Mi.eq_3 Mi.eq_4
attribute [go_sem] BR.eq_1 BR.eq_2 BR.eq_3 BR.eq_4
attribute [go_sem] Xj.eq_1 Xj.eq_2
attribute [go_sem] QR.eq_1 QR.eq_2
attribute [go_sem] gH.eq_1 gH.eq_2
attribute [go_sem] gG.eq_1 gG.eq_2
attribute [go_sem] Cy.eq_1 Cy.eq_2 Cy.eq_3 Cy.eq_4 Cy.eq_5 Cy.eq_6 Cy.eq_7 Cy.eq_8 Cy.eq_9 Cy.eq_10 Cy.eq_11 Cy.eq_12 Cy.eq_13 Cy.eq_14 Cy.eq_15 Cy.eq_16
attribute [go_sem] XR.eq_1 XR.eq_2 XR.eq_3
attribute [go_sem] QU.eq_1 QU.eq_2
attribute [go_sem] eB.eq_1 eB.eq_2
attribute [go_sem] aA.eq_1 aA.eq_2
attribute [go_sem] gQ.eq_1 gQ.eq_2 gQ.eq_3
attribute [go_sem] QJ.eq_1 QJ.eq_2 QJ.eq_3
attribute [go_sem] Uq.eq_1 Uq.eq_2
attribute [go_sem] Js.eq_1 Js.eq_2 Js.eq_3 Js.eq_4
attribute [go_sem] UN.eq_1 UN.eq_2 UN.eq_3
attribute [go_sem] Lc.eq_1 Lc.eq_2 Lc.eq_3
attribute [go_sem] AJk List.set_cons_succ List.set_cons_zero c8 ec bX e5 List.length_cons List.length_nil List.cons_append List.nil_append List.append_nil List.replicate_succ List.replicate_zero List.any_cons List.any_nil fx List.all_nil Nat.reduceMod Nat.reduceAdd Nat.reduceMul Nat.reduceSub Nat.reduceDiv Nat.reduceEqDiff Nat.reduceLeDiff Nat.reduceBEq Nat.reduceBeqDiff Nat.reduceLT decide_true decide_false reduceCtorEq List.flatMap_nil dT bfT fI Bool.or_self Bool.not_false Bool.not_true Bool.not_not Bool.and_true Bool.true_and Bool.false_and Bool.and_false Bool.or_true Bool.true_or Bool.or_false Bool.false_or List.drop_zero List.drop_succ_cons List.take_succ_cons List.take_zero List.isEmpty_nil List.isEmpty_cons if_true if_false ite_self dtE beq_self_eq_true tnC Int.reduceNeg Int.reduceLE Int.reduceLT Int.reduceToNat Int.reduceEq Int.reduceBEq Option.map_some Option.map_none Option.toList_some Option.toList_none
attribute [go_sem ↓] reduceIte
theorem du(f:St->FU)(k o r:List Bool)(n:Nat)(s:St):LU f k o r (n+1) s=KM (LU f k o r n) (KQ k o r (f s)):=rfl
theorem th{α:Type}(f:α->AV)(xs:List α)(e:α){i:Nat}(h:i<xs.length):(xs.map f).getD i .any=f (xs.getD i e):=by
 simp[gdE,cd,geE h]
attribute [go_sem] eu ej List.length_set e6 List.length_drop List.length_take
end Go.Proofs.YtegmpdmpgmpiaaaGreatDoor
namespace Go.Proofs.YtegmpdmpgmpiaaaGreatDoor
open Go Go.RowKit
def PM(k n:Nat):Mb:=⟨.push,k,c6,.mov (.v n)⟩
def VS(n k i:Nat):Mb:=⟨.var n,k,c6,.mov (.s i)⟩
def PO(k:Nat)(a:Jc):Mb:=⟨.push,k,c6,a⟩
def VO(n k:Nat)(a:Jc):Mb:=⟨.var n,k,c6,a⟩
def SO(n k:Nat)(a:Jc):Mb:=⟨.slot n,k,c6,a⟩
def I6(n:Int):Src:=.c (.int .i64 n)
attribute [go_sem] PM VS PO VO SO I6
def ck{α:Type}(c:Bool)(k:Option α):Option α:=if c=b9 then k else c6
theorem AO{α:Type}{c:Bool}{k:Option α}{r:α}(h:ck c k=b8 r):c=b9∧k=b8 r:=by
 unfold ck at h;split at h
 ·exact⟨by assumption,h⟩
 ·cases h
theorem AB{α:Type}(k:Option α):ck b9 k=k:=id rfl
theorem AN{α β:Type}{x:Option α}{f:α->Option β}{r:β}(h:x.bind f=b8 r):∃ y,x=b8 y∧f y=b8 r:=by
 cases x with
 | none=>cases h
 | some y=>exact⟨y,rfl,h⟩
theorem Ab{β:Type}{c:Bool}{a b:Option β}{r:β}(h:(if c=b9 then a else b)=b8 r):(c=b9∧a=b8 r)∨(c=be∧b=b8 r):=by
 cases c
 ·exact .inr ⟨rfl,h⟩
 ·exact .inl ⟨rfl,h⟩
theorem AR{α:Type}{a b:α}(h:b8 a=b8 b):a=b:=df h
theorem EX{g c:Bool}(h:(!g||c)=b9):(g=b9∧c=b9)∨g=be:=by cases g<;>cases c<;>simp_all
theorem AEd{a b:Bool}(h:(a&&b)=be):a=be∨(a=b9∧b=be):=by cases a<;>cases b<;>simp_all
theorem AAK{a b:Bool}(h:(a||b)=b9):a=b9∨(a=be∧b=b9):=by cases a<;>cases b<;>simp_all
theorem AFx{a b:Bool}(h:(a||b)=be):a=be∧b=be:=by cases a<;>cases b<;>simp_all
theorem SM{a:Bool}(h:(!a)=b9):a=be:=by cases a<;>simp_all
theorem Nu{a:Bool}(h:(!a)=be):a=b9:=by cases a<;>simp_all
theorem n1{b:Bool}:((!b)=b9)=(b=be):=by cases b<;>simp
theorem n2{b:Bool}:((!b)=be)=(b=b9):=by cases b<;>simp
theorem n3{a b:Bool}:((a&&b)=b9)=(a=b9∧b=b9):=by cases a<;>cases b<;>simp
theorem n4{a b:Bool}:((a||b)=be)=(a=be∧b=be):=by cases a<;>cases b<;>simp
def mh{α:Type}(sz:Nat)(f:α->AV)(xs:List α):AV:=.sl sz (bN f xs)
attribute [go_sem] mh ef
def Jr{σ ρ:Type}(step:σ->Option (σ⊕ρ)):Nat->σ->Option ρ
 | 0,_=>c6
 | n+1,s=>match step s with
  | none=>c6
  | some (.inl s')=>Jr step n s'
  | some (.inr r)=>b8 r
open Classical in
def AE{σ ρ:Type}(step:σ->Option (σ⊕ρ))(s:σ):Option ρ :=if h:∃ n,(Jr step n s).isSome=b9 then Jr step (e8 h) s else c6
theorem TI{σ ρ:Type}{step:σ->Option (σ⊕ρ)}{r:ρ}:∀ {n m:Nat} {s:σ},n<=m->Jr step n s=b8 r->Jr step m s=b8 r
 | 0,_,_,_,h=>by cases h
 | n+1,0,_,hm,_=>by omega
 | n+1,m+1,s,hm,h=>by
  simp only[Jr] at h ⊢;cases hs:step s with
  | none=>rw[hs] at h;cases h
  | some o=>
   rw[hs] at h;cases o with
   | inl s'=>exact TI (by omega) h
   | inr r'=>exact h
theorem Lr{σ ρ:Type}{step:σ->Option (σ⊕ρ)}{s:σ}{r:ρ}{n:Nat}(h:Jr step n s=b8 r):AE step s=b8 r:=by
 have o:∃ n,(Jr step n s).isSome=true:=⟨n,by rw[h];rfl⟩;unfold AE;rw[dif_pos o];obtain⟨r',i⟩:=zX (Classical.choose_spec o);rw[i];rcases gg n (e8 o) with j|j
 ·rw[TI j h] at i;exact i.symm
 ·rw[TI j i] at h;exact h
theorem Ik{σ ρ:Type}{step:σ->Option (σ⊕ρ)}{s:σ}{r:ρ}(h:AE step s=b8 r):∃ n,Jr step n s=b8 r:=by
 unfold AE at h;split at h
 ·exact⟨_,h⟩
 ·cases h
theorem cg{σ ρ:Type}(step:σ->Option (σ⊕ρ))(s:σ):AE step s=match step s with
  | none=>c6
  | some (.inl s')=>AE step s'
  | some (.inr r)=>b8 r:=by
 apply Option.ext;intro r;constructor
 ·intro h;obtain⟨n,i⟩:=Ik h;cases n with
  | zero=>cases i
  | succ n=>
   simp only[Jr] at i;cases hs:step s with
   | none=>rw[hs] at i;cases i
   | some o=>
    rw[hs] at i;cases o with
    | inl s'=>exact Lr i
    | inr r'=>exact i
 ·intro h;cases hs:step s with
  | none=>rw[hs] at h;cases h
  | some o=>
   rw[hs] at h;cases o with
   | inl s'=>
    obtain⟨n,i⟩:=Ik h;exact Lr (n:=n+1) (by simp only[Jr,hs];exact i)
   | inr r'=>exact Lr (n:=1) (by simp only[Jr,hs];exact h)
theorem Ak{σ ρ:Type}{step:σ->Option (σ⊕ρ)}{s s':σ}(h:step s=b8 (.inl s')):AE step s=AE step s':=by rw[cg,h]
theorem Ae{σ ρ:Type}{step:σ->Option (σ⊕ρ)}{s:σ}{r:ρ}(h:step s=b8 (.inr r)):AE step s=b8 r:=by rw[cg,h]
theorem PZ{σ ρ:Type}{step:σ->Option (σ⊕ρ)}(f:Nat->σ)(m:Nat){r:ρ}(hs:∀ i,i<m->step (f i)=b8 (.inl (f (i+1))))(hd:step (f m)=b8 (.inr r)):AE step (f 0)=b8 r:=by
 have:∀ k,k<=m->AE step (f (m-k))=b8 r:=by
  intro k
  induction k with
  | zero=>intro _;exact Ae hd
  | succ k j=>
   intro o;rw[Ak (hs (m-(k+1)) (by omega)),show m-(k+1)+1=m-k by omega];exact j (by omega)
 simpa using this m (cf _)
theorem KG{σ ρ:Type}{step:σ->Option (σ⊕ρ)}{E:σ->St}{R:ρ->FU}{T:Kc}{b:IR}{j ot rt:List Bool}(hR:∀ y,(R y).1 ≠ .norm)
  (hs:∀ s o,step s=b8 o->∃ i,∀ L,i<=L->KQ j ot rt (Bn T L b (E s))=Sum.elim (fun s'=>((.norm,E s'):FU)) R o)
  {s:σ} {y:ρ} (h:AE step s=b8 y):∃ i,∀ L,i<=L->LU (Bn T L b) j ot rt L (E s)=R y:=by
 obtain⟨n,hn⟩:=Ik h
 have key:∀ n s,Jr step n s=b8 y->∃ i,∀ L m,i<=L->n<=m->LU (Bn T L b) j ot rt m (E s)=R y:=by
  intro n
  induction n with
  | zero=>intro s h;cases h
  | succ n U=>
   intro s h;simp only[Jr] at h;cases p:step s with
   | none=>rw[p] at h;cases h
   | some o=>
    rw[p] at h;obtain⟨J,I⟩:=hs s o p;cases o with
    | inl s'=>
     obtain⟨L2,h2⟩:=U s' h;refine⟨J+L2,fun L m C hm=>?_⟩;cases m with
     | zero=>omega
     | succ m=>
      rw[du,I L (by omega)];exact h2 L m (by omega) (by omega)
    | inr r=>
     cases h
     refine⟨J,fun L m C hm=>?_⟩;cases m with
     | zero=>omega
     | succ m=>
      rw[du,I L C];have:=hR y;simp only[Sum.elim_inr];revert this;generalize R y=q;obtain⟨e,s'⟩:=q;cases e
      ·intro c;exact absurd rfl c
      ·intro _;rfl
      ·intro _;rfl
 obtain⟨i,h0⟩:=key n s hn;exact⟨i+n,fun L C=>h0 L L (by omega) (by omega)⟩
theorem eV{α:Type}{f:α->AV}(h:∀ x,qh (f x)=b9)(xs:List α):(bN f xs).all qh=b9:=by
 induction xs<;>simp_all
theorem ACX{l:List (Nat×Ar)}{fn:Bl}{modes:List Md}{args:List AV}{r:AV}{outs:List AV}(h:∃ i,∀ L,i<=L->OU (Iw l) L fn modes args=⟨b9,r,outs⟩):(Xl l fn modes).F args=⟨b9,r,outs⟩:=by
 obtain⟨L,h⟩:=h;exact AJf L (h L (cf _))
theorem pY{l:List (Nat×Ar)}{fn:Bl}{modes:List Md}{args:List AV}{r:AV}{outs:List AV}(i:OJ r=b9)(h:∃ j,∀ L,j<=L->OU (Iw l) L fn modes args=⟨b9,r,outs⟩):(Cw l fn modes).F args=⟨b9,r,outs⟩:=by
 obtain⟨L,h⟩:=h;exact AJg L (h L (cf _)) i
open Classical in
def rc(n:Int):UInt8:=UInt8.ofNat n.toNat
theorem wrap_i64{n:Int}(i:-9223372036854775808<=n)(h2:n<=9223372036854775807):bb.wrap n=n:=by
 unfold dw dz;simp[db];omega
theorem Z1{n:Int}(h: -9223372036854775808<=n∧n<=9223372036854775807):bb.wrap n=n:=wrap_i64 h.1 h.2
theorem mS(e:Int):0<=bS.wrap e:=by
 unfold dw dz;simp[db];omega
theorem mT(e:Int):bS.wrap e<256:=by
 unfold dw dz;simp[db];omega
theorem za{n:Int}(i:0<=n)(h2:n<256):bS.wrap n=n:=by
 unfold dw dz;simp[db];omega
theorem ACI(c:UInt8):(c.toNat:Int)<256:=by have:=c.toNat_lt;omega
theorem ra(e:Int):(((UInt8.ofNat (bS.wrap e).toNat).toNat:Nat):Int)=bS.wrap e:=by
 have i:=mS e;have h2:=mT e;rw[UInt8.toNat_ofNat'];omega
theorem ABO(c:UInt8):bb.wrap (c.toNat:Int)=(c.toNat:Int):=wrap_i64 (by omega) (by have:=ACI c;omega)
theorem Ps(xs:List UInt8):(xs.map Fm).all Ix=b9:=by induction xs<;>simp_all [Fm,Ix]
theorem oX(xs:List UInt8):(xs.map Fm).map QH=xs:=by
 induction xs with
 | nil=>rfl
 | cons a r i=>simp only[bX,i,Fm,QH,tnC,UInt8.ofNat_toNat]
theorem BX{α:Type}[Inhabited α](f:α->AV)(xs:List α){i:Nat}(h:i<xs.length):(xs.map f).getD i .any=f (xs.getD i a'):=th f xs a' h
theorem GX{n:Int}{m:Nat}(h:AU n m=b9):n.toNat<m:=by
 simp only[AU,baT,dtE] at h;omega
theorem AGO(x:AV)(q:Bool):Yo be x (.bool q) = .bool q:=by cases x<;>rfl
theorem AGN(y:AV)(p:Bool):Yo b9 (.bool p) y = .bool p:=by cases y<;>rfl
attribute [go_sem] List.set_set tnC UInt8.ofNat_toNat rc ra ABO Ps oX et List.map_set fm fs List.all_append Sum.elim_inl Sum.elim_inr AGO AGN St.mk.injEq Prod.mk.injEq List.map_replicate UInt8.reduceToNat Int.cast_ofNat_Int Bool.or_not_self Bool.not_or_self
def Mt(P:bI)(t:Nat):TypeDesc:=(P.underlying t).getD .invalid
def cP:e3->Nat
 | .slice e=>e
 | .pointer e=>e
 | _=>0
def AII:e3->Bool
 | .struct _=>b9
 | .array _ _=>b9
 | _=>be
def ZX(P:bI)(t f:Nat):Field:=match Mt P t with
 | .struct i=>i.getD f a'
 | _=>a'
def AEY(P:bI):Value->e3->AV
 | .int k n,_=>.int k n
 | .bool b,_=>.bool b
 | .string s,_=>.str s.data.toList
 | .slice _ _ _,.slice e=>.sl (P.cellsOf e) []
 | .slice _ _ _,_=>.nilsl
 | .tuple _,_=>.cv b'
 | .pointer _,_=>.cv (.pointer c6)
 | .nilFunc,_=>.cv .nilFunc
 | .nilIface,_=>.cv .nilIface
 | _,_=>.any
def AEb(P:bI):Nat->Nat->List Nat
 | 0,t=>[t]
 | k+1,t=>match Mt P t with
  | .struct i=>i.toList.flatMap fun f=>AEb P k f.type
  | _=>[t]
def AEX(P:bI)(v:Value)(t:Nat):AV:=match v with
 | .agg cs=>.agg (List.zipWith (fun c u=>AEY P c (Mt P u)) cs.toList (AEb P 4 t))
 | v=>AEY P v (Mt P t)
def jT(P:bI)(t:Nat):AV:=match (P.info? t).bind (·.zero) with
 | some v=>AEX P v t
 | none=>.any
def UI(x:Nat):Nat->List Nat->Option Nat
 | _,[]=>c6
 | i,y::r=>if y=x then b8 i else UI x (i+1) r
def JE(P:bI)(vm e:List Nat)(t:Nat):Operand->Src
 | .tmp x=>match UI x 0 vm with
  | some i=>.v i
  | none=>.s ((UI x 0 e).getD 0)
 | .const v=>.c (AEX P v t)
 | .func f=>.c (.fn (.func f) [] [])
 | .global _=>.c .any
def ACY:e3->Nat
 | .bool=>0
 | .int _=>1
 | .string=>2
 | _=>9
def mA(b i:Nat):Bool:=b/i%2==1
def RU(P:bI)(vm e:List Nat):List Operand->List Nat->List Src
 | [],_=>[]
 | x::r,[]=>JE P vm e 99999 x::RU P vm e r []
 | x::r,t::i=>JE P vm e t x::RU P vm e r i
def AJc(P:bI)(vm e:List Nat)(b t:Nat)(x:Operand):Jc :=match x,Mt P t with
 | .const (.slice c6 0 0),.slice el=>if mA b 1 then .mov (JE P vm e t x) else .newnil (P.cellsOf el)
 | _,_=>if mA b 2 then .movz (JE P vm e t x) else .mov (JE P vm e t x)
def binO(P:bI)(op:BinOp)(d:e3)(x y:Src):Jc:=match d with
 | .struct i=>.eqA (op == .neq) (i.toList.map fun f=>ACY (Mt P f.type)) x y
 | .bool=>.bin b9 op x y
 | _=>.bin be op x y
def cnvO(a d:e3)(x:Src):Jc:=match a,d with
 | .int _,.int k=>.conv k x
 | .string,.slice _=>.s2b x
 | .slice _,.string=>.b2s x
 | _,_=>.mov x
def AKV(P:bI)(vm e:List Nat)(b:Nat)(c:Call):Jc :=match c.callee with
 | .value (.func f)=>if mA b 8 then .callw f (RU P vm e c.args.toList c.argTypes.toList) else if mA b 16 then .callp f (RU P vm e c.args.toList c.argTypes.toList) else .call f (RU P vm e c.args.toList c.argTypes.toList)
 | .value g=>.callv (JE P vm e 99999 g) (RU P vm e c.args.toList c.argTypes.toList)
 | .builtin .len=>.len (ACY (Mt P (c.argTypes.getD 0 0))==2) ((RU P vm e c.args.toList c.argTypes.toList).getD 0 (.v 0))
 | .builtin .append=>.app (P.cellsOf (cP (Mt P (c.argTypes.getD 0 0)))) (P.bytesOf (cP (Mt P (c.argTypes.getD 0 0)))) (jT P (cP (Mt P (c.argTypes.getD 0 0)))) ((RU P vm e c.args.toList c.argTypes.toList).getD 0 (.v 0)) ((RU P vm e c.args.toList c.argTypes.toList).getD 1 (.v 0))
 | .builtin .min=>.minmax be (RU P vm e c.args.toList c.argTypes.toList)
 | _=>.minmax b9 (RU P vm e c.args.toList c.argTypes.toList)
def slO(n b:Nat)(x:Src)(lo hi:Option Src):Jc:=if mA b 4 then .trunc n x (hi.getD (.v 0)) else .slice n x lo hi
def AKb(P:bI)(vm e:List Nat)(b t0:Nat):Op->Jc
 | .move x=>AJc P vm e b t0 x
 | .assign x=>AJc P vm e b t0 x
 | .pick c x y=>.pick (JE P vm e t0 c) (JE P vm e t0 x) (JE P vm e t0 y)
 | .alloc t=>.alloc (jT P t)
 | .box t x=>.box (JE P vm e t x)
 | .build t ps=>.build (jT P t).cells (ps.toList.map fun p=>((ZX P t p.1).offset,P.cellsOf (ZX P t p.1).type,JE P vm e (ZX P t p.1).type p.2))
 | .buildSlice t n ps=>.mkSl (P.cellsOf (cP (Mt P t))) (jT P (cP (Mt P t))) n (ps.toList.map fun p=>(p.1,JE P vm e (cP (Mt P t)) p.2))
 | .load t p=>.load (AII (Mt P t)) (P.cellsOf t) (JE P vm e 99999 p)
 | .store t p x=>.store (P.cellsOf t) (JE P vm e 99999 p) (JE P vm e t x)
 | .nilCheck x=>.nilck (JE P vm e 99999 x)
 | .binOp op t x y _=>binO P op (Mt P t) (JE P vm e 99999 x) (JE P vm e 99999 y)
 | .unOp op _ x=>.un op (JE P vm e 99999 x)
 | .convert a d x=>cnvO (Mt P a) (Mt P d) (JE P vm e a x)
 | .makeFunc f fi ca=>.mkFn f (fi.toList.map (JE P vm e 99999)) (ca.toList.map (JE P vm e 99999))
 | .makeSlice t l c=>.make (P.cellsOf (cP (Mt P t))) (P.bytesOf (cP (Mt P t))) (jT P (cP (Mt P t))) (JE P vm e 99999 l) (JE P vm e 99999 c)
 | .slice t x lo hi _=>slO (match Mt P t with | .slice e=>P.cellsOf e|_=>0) b (JE P vm e t x) (lo.map (JE P vm e 99999)) (hi.map (JE P vm e 99999))
 | .fieldAddr t x f=>.fldAddr (ZX P t f).offset (JE P vm e 99999 x)
 | .field t x f=>.fld (AII (Mt P (ZX P t f).type)) (ZX P t f).offset (P.cellsOf (ZX P t f).type) (JE P vm e t x)
 | .indexAddr t x i=>.ixAddr (P.cellsOf (cP (Mt P t))) (JE P vm e t x) (JE P vm e 99999 i)
 | .index _ x i=>.ixStr (JE P vm e 99999 x) (JE P vm e 99999 i)
 | .extract x i=>.ext (JE P vm e 99999 x) i
 | .call c=>AKV P vm e b c
 | _=>.mov (.c .any)
def mkO(k:Nat):List (Nat×Nat)->Nat
 | []=>0
 | p::r=>if p.1=k then p.2 else mkO k r
def wrO(b:Nat)(i:List Nat)(a:Jc):Jc:=if mA b 64 then .flat a else if mA b 128 then .safe i a else a
def AAv(P:bI)(vm e:List Nat)(C:Bool)(b:Nat)(p:List Nat)(j:List Oper)(o:Oper):Mb :=⟨match o.dst with
  | none=>.no
  | some d=>match UI d 0 vm with
   | some i=>.var i
   | none=>if C then .slot ((UI d 0 e).getD 0) else .push,o.dst.getD 0, match o.guard with
  | none=>c6
  | some g=>b8 (JE P vm e 99999 (.tmp ((j.getD g.1 a').dst.getD 0)),g.2),wrO b p (if mA b 32 then .pur (AKb P vm e b o.type o.op) else AKb P vm e b o.type o.op)⟩
def ACQ(x:Ji)(d:Option Nat)(e:List Nat):List Nat:=match x with
 | .push=>d.getD 0::e
 | _=>e
def xC(P:bI)(vm:List Nat)(mk:List (Nat×Nat))(j:List Oper):Nat->List Nat->List Oper->List Mb×List Nat
 | _,e,[]=>([],e)
 | i,e,o::r=>((AAv P vm e be (mkO i mk) [] j o)::(xC P vm mk j (i+1) (ACQ (AAv P vm e be (mkO i mk) [] j o).dst o.dst e) r).1,(xC P vm mk j (i+1) (ACQ (AAv P vm e be (mkO i mk) [] j o).dst o.dst e) r).2)
def Wl(vm:List Nat):List Nat->List Oper->List Nat
 | acc,[]=>acc.reverse
 | acc,o::r=>match o.dst with
  | none=>Wl vm acc r
  | some d=>if (UI d 0 vm).isSome||(UI d 0 acc).isSome then Wl vm acc r else Wl vm (d::acc) r
def AGb(P:bI)(vm e:List Nat)(mk:List (Nat×Nat))(p:List Nat)(j:List Oper):Nat->List Oper->List Mb
 | _,[]=>[]
 | i,o::r=>AAv P vm e b9 (mkO i mk) p j o::AGb P vm e mk p j (i+1) r
def rS:Nat->Nat->List Bool
 | 0,_=>[]
 | n+1,k=>(k%2==1)::rS n (k/2)
abbrev Rg:=List (Nat×List Nat×List (List Nat))
def rgO(k:Nat):Rg->List Nat×List (List Nat)
 | []=>([],[])
 | p::r=>if p.1=k then p.2 else rgO k r
def Ml(P:bI)(vm:List Nat)(mk:List (Nat×Nat))(rg:Rg):Code->List (Nat×Nat×Nat)->IR×List (Nat×Nat×Nat)
 | .region id i b9,ms=>(.anyo (Wl vm [] i.toList).length (AGb P vm (Wl vm [] i.toList) mk (rgO id rg).1 i.toList (100*id) i.toList) (rgO id rg).2 .skip,ms)
 | .region id i be,ms=>(.region be (xC P vm mk i.toList (100*id) [] i.toList).1,ms)
 | .seq (.region id i b9) (.cond c a b),ms=>(.anyo (Wl vm [] i.toList).length (AGb P vm (Wl vm [] i.toList) mk (rgO id rg).1 i.toList (100*id) i.toList) (rgO id rg).2 (.cond (JE P vm (Wl vm [] i.toList) 99999 c) (Ml P vm mk rg a ms).1 (Ml P vm mk rg b (Ml P vm mk rg a ms).2).1),(Ml P vm mk rg b (Ml P vm mk rg a ms).2).2)
 | .seq (.region id i be) (.cond c a b),ms=>(.test be (xC P vm mk i.toList (100*id) [] i.toList).1 (JE P vm (xC P vm mk i.toList (100*id) [] i.toList).2 99999 c) (Ml P vm mk rg a ms).1 (Ml P vm mk rg b (Ml P vm mk rg a ms).2).1,(Ml P vm mk rg b (Ml P vm mk rg a ms).2).2)
 | .seq a b,ms=>(.seq (Ml P vm mk rg a ms).1 (Ml P vm mk rg b (Ml P vm mk rg a ms).2).1,(Ml P vm mk rg b (Ml P vm mk rg a ms).2).2)
 | .cond c a b,ms=>(.cond (JE P vm [] 99999 c) (Ml P vm mk rg a ms).1 (Ml P vm mk rg b (Ml P vm mk rg a ms).2).1,(Ml P vm mk rg b (Ml P vm mk rg a ms).2).2)
 | .block id a,ms=>(.block id (Ml P vm mk rg a ms).1,(Ml P vm mk rg a ms).2)
 | .loop a,m::ms=>(.loop (rS vm.length m.1) (rS vm.length m.2.1) (rS vm.length m.2.2) (Ml P vm mk rg a ms).1,(Ml P vm mk rg a ms).2)
 | .exit id,ms=>(.exit id,ms)
 | .ret,ms=>(.ret,ms)
 | _,ms=>(.skip,ms)
def resO(P:bI)(vm:List Nat):dX->oh
 | .tmp t=>.t ((UI t 0 vm).getD 0)
 | .cell a t=>.cell (AII (Mt P t)) (P.cellsOf t) ((UI a 0 vm).getD 0)
def Aj(P:bI)(f:gj)(vm:List Nat)(mk:List (Nat×Nat))(rg:Rg)(ms:List (Nat×Nat×Nat)):Bl :=⟨f.params.size+f.nfree,vm.length,(Ml P vm mk rg (f.body.getD .skip) ms).1,f.results.toList.map (resO P vm)⟩
def JZ:IR->List (List Bool×List Bool×List Bool×IR)->List (List Bool×List Bool×List Bool×IR)
 | .skip,r=>r
 | .region _ _,r=>r
 | .test _ _ _ a b,r=>JZ a (JZ b r)
 | .anyo _ _ _ a,r=>JZ a r
 | .seq a b,r=>JZ a (JZ b r)
 | .cond _ a b,r=>JZ a (JZ b r)
 | .block _ a,r=>JZ a r
 | .loop k o q a,r=>(k,o,q,a)::JZ a r
 | .mask _ a,r=>JZ a r
 | .exit _,r=>r
 | .ret,r=>r
def NX(fn:Bl)(n:Nat):List Bool×List Bool×List Bool×IR:=(JZ fn.body []).getD n ([],[],[],.skip)
def Jj(t:List (Nat×Ar))(L:Nat)(fn:Bl)(n:Nat)(s:St):FU :=LU (Bn (Iw t) L (NX fn n).2.2.2) (NX fn n).1 (NX fn n).2.1 (NX fn n).2.2.1 L s
attribute [go_sem] JZ NX Jj c8 ec
theorem N1:(∀ b:Bool,((!b)=b9)=(b=be))∧(∀ b:Bool,((!b)=be)=(b=b9))∧(∀ a b:Bool,((a&&b)=b9)=(a=b9∧b=b9))∧(∀ a b:Bool,((a||b)=be)=(a=be∧b=be)):=⟨@n1,@n2,@n3,@n4⟩
theorem tg{α:Type}[Inhabited α](f:α->AV)(xs:List α){i:Nat}(h:i<xs.length):(bN f xs).getD i .any=f (xs.getD i a'):=BX f xs h
def gd{α:Type}[Inhabited α](o:Option α):α:=o.getD a'
theorem BA{α:Type}[Inhabited α](x:α):gd (b8 x)=x:=id rfl
theorem isX{α:Type}{o:Option α}(h:o.isSome=b9):∃ a,o=b8 a:=zX h
theorem MZ{α:Type}{o:Option α}{y:α}(h:o=b8 y):o.isSome=b9:=by rw[h];rfl
theorem cr{α:Type}[Inhabited α]{o:Option α}{Q:α->Prop}(H:∀ y,o=b8 y->Q y)(h:o.isSome=b9):Q (o.getD a'):=by
  cases o with
  | none=>cases h
  | some y=>exact H y rfl
theorem lp{Q P:Nat->Prop}(h:∃ p,∀ L,p<=L->Q L)(k:∃ i,∀ L,i<=L->Q L->P L):∃ i,∀ L,i<=L->P L:=by
  obtain⟨a,o⟩:=h;obtain⟨b,j⟩:=k;exact⟨a+b,fun L C=>j L (by omega) (o L (by omega))⟩
theorem sq(l:List (Nat×Ar))(fn:Bl)(m:List Md):(Xl l fn m).modes=m:=rfl
theorem wT(l:List (Nat×Ar))(fn:Bl)(m:List Md):(Xl l fn m).flat=false:=rfl
theorem su(l:List (Nat×Ar))(fn:Bl)(m:List Md):(Cw l fn m).modes=m:=rfl
theorem wU(l:List (Nat×Ar))(fn:Bl)(m:List Md):(Cw l fn m).flat=true:=rfl
theorem so(l:List (Nat×Ar))(fn:Bl)(m:List Md):(mkZ l fn m).modes=m:=rfl
theorem wS(l:List (Nat×Ar))(fn:Bl)(m:List Md):(mkZ l fn m).flat=false:=rfl
theorem tF(f n:Nat)(c:Ar)(l:List (Nat×Ar)):Iw ((n,c)::l) f=bif f==n then b8 c else Iw l f:=rfl
attribute [go_sem] tg Option.isSome_some ef gd sq wT su wU so wS tF
class Sd (P:bI) (f:Nat) (c:Ar):Prop where
  s:CF P f c
class SdL (P:bI) (l:List (Nat×Ar)):Prop where
  s:∀ p,p∈l->CF P p.1 p.2
instance SdL0 {P:bI}:SdL P []:=⟨fR⟩
instance SdL1{P:bI}{f:Nat}{c:Ar}{l:List (Nat×Ar)}[h:Sd P f c][hl:SdL P l]:SdL P ((f,c)::l):=⟨Jo h.s hl.s⟩
section
variable {P:bI}{f:Nat}{fu:gj}{l:List (Nat×Ar)}{m:List Md}{vm:List Nat}{mk:List (Nat×Nat)}{rg:Rg}{ms:List (Nat×Nat×Nat)}[hl:SdL P l]
theorem SN(h:Sc P f (Aj P fu vm mk rg ms) vm=b9:=by kernel_rfl):Sd P f (Xl l (Aj P fu vm mk rg ms) m):=⟨dZ m hl.s h⟩
theorem Aq(h:Sc P f (Aj P fu vm mk rg ms) vm=b9:=by kernel_rfl)(hm:wL m=b9:=by rfl):Sd P f (Cw l (Aj P fu vm mk rg ms) m):=⟨sr m hm hl.s h⟩
theorem mkZS(h:Sc P f (Aj P fu vm mk rg ms) vm=b9:=by kernel_rfl):Sd P f (mkZ l (Aj P fu vm mk rg ms) m):=⟨sn m hl.s h⟩
end
theorem an{A B:Prop}(a:A)(b:B):A∧B:=⟨a,b⟩
theorem go{Q P:Prop}(l:Q)(t:Q->P:=by
  intro l
  repeat' first
  | (with_reducible have q:=Ab h;clear h;rcases q with⟨z,h⟩|⟨z,h⟩<;>try simp only[go_sem,N1, *] at z)
  | (with_reducible have q:=AO h;clear h;obtain⟨z,h⟩:=q
     first
     | (have i:=GX z;(try simp only[go_sem] at i);(try simp only[go_sem,N1, *] at z))
     | (have q:=EX z;clear z;rcases q with⟨g,z⟩|g<;>(try simp only[go_sem,N1, *] at g)<;>first|(have i:=GX z;(try simp only[go_sem] at i);try simp only[go_sem,N1, *] at z)|skip)
     | (try simp only[go_sem,N1, *] at z))
  | (with_reducible have q:=AN h;clear h;obtain⟨y,z,h⟩:=q;first|with_reducible refine lp (l z) ?_|with_reducible refine lp (l.1 z) ?_|with_reducible refine lp (l.2 z) ?_|with_reducible refine lp (l.2.1 z) ?_|with_reducible refine lp (l.2.2 z) ?_|with_reducible refine lp (l.2.2.1 z) ?_|with_reducible refine lp (l.2.2.2.1 z) ?_|with_reducible refine lp (l.2.2.2.2.1 z) ?_|with_reducible refine lp (l.2.2.2.2.2 z) ?_|(have f:=l z;simp only[go_sem] at f)|(have f:=l.1 z;simp only[go_sem] at f)|(have f:=l.2 z;simp only[go_sem] at f)|(have f:=l.2.1 z;simp only[go_sem] at f)|(have f:=l.2.2 z;simp only[go_sem] at f)|skip)
  | (rcases y with y|y|y<;>dsimp only at h)
  | (rcases y with y|y<;>dsimp only at h)
  all_goals
    obtain rfl:=AR h;refine⟨0,fun L j=>?_⟩
    intros
    try (rename_i e;simp only[go_sem, *] at e)
    first
    | (simp only[go_sem, *];done)
    | (simp_all only[go_sem,N1];done)
    | (cases y<;>simp_all only[go_sem,N1,Bool.true_and,Bool.false_and,Bool.not_true,Bool.not_false,Bool.true_or,Bool.false_or];done)):P:=t l
theorem Cj{Q P:Prop}(fn:Bl)(l:Q)(t:fn=fn->Q->P:=by
  intro c l
  conv at c=>rhs;cbv
  obtain⟨y,e⟩:=isX h;clear h;simp only[e,BA];first
  | with_reducible refine ACX ?_
  | with_reducible refine ACV ?_
  | with_reducible refine pY (by first|(simp only[OJ,RH,Um,List.all_cons,List.all_nil,Bool.and_self];done)|(simp only[OJ,RH,Um,List.all_cons,List.all_nil,Bool.and_self,Bool.true_and,Bool.and_true];exact eV (fun _=>rfl) _)) ?_
  have h:=e;clear e;dsimp only[go_sem] at h;exact go @l):P:=t rfl l
theorem LF{Q P:Prop}(fn:Bl)(l:Q)(t:fn=fn->Q->P:=by
  intro c l
  conv at c=>rhs;cbv
  simp only[c,Jj,NX,JZ,List.getD_cons_zero,List.getD_cons_succ];refine KG ?_ ?_ h
  · intro y;first
    | (intro c;cases c)
    | (rcases y with y|y<;>(intro c;cases c))
    | (rcases y with y|y|y<;>(intro c;cases c))
  clear h;intro s o h
  repeat' first
  | obtain⟨a,s⟩:_×_:=s
  | obtain⟨⟩:Unit:=s
  dsimp only[go_sem] at h;exact go @l):P:=t rfl l
theorem Kb{F:Nat->Prop}{g0:Gh}{args:List AV}{modes:List Md}{w w':cI}{v:Value}{r:AV}{outs:List AV}(hs:AG (fun _=>False) w w')
  (I:RV (AS F g0 []) w' g0 [] id v r) (C:∀ i,¬ Jk r i) (hio:∀ j:Nat,modes[j]? ≠ b8 Md.io):bu F g0 args modes w v w' r outs g0 [] id where
 same:=hs.mono fun _ _ c=>c.elim
 home:=fun k h o=>by simp[AK] at o
 inj:=fun k R p=>by obtain⟨⟨h,o⟩,_⟩:=p;simp[AK] at o
 nF:=fun k p=>by obtain⟨⟨h,o⟩,_⟩:=p;simp[AK] at o
 hio:=fun k p=>by obtain⟨⟨h,o⟩,_⟩:=p;simp[AK] at o
 val:=I
 κinj:=fun i j hi=>(C i hi).elim
 κio:=fun i j hi=>(C i hi).elim
 out:=fun j J=>(hio j J).elim
theorem GD{F:Nat->Prop}{g:Gh}{w:cI}{args:List AV}{vargs:Array Value}(h:FR F g w vargs (ct args.length) [] (Np args)){i:Nat}(hi:i<args.length):
  SR (AS F g (BR 0 args)) w g (BR 0 args) (vargs.getD i b') (ZM i (args.getD i .any)):=by
 have:=h.vs i (by simpa using hi);have o:(ct args.length).getD i 0=i:=by rw[gdE,cm hi];rfl
 rw[o] at this;have j:(Np args).vs.getD i .any=ZM (0+i) (args.getD i .any):=Lv args 0 i hi;rw[j,c'] at this;exact this
theorem NF{vargs:Array Value}(h:vargs.size=2):vargs = #[vargs.getD 0 b',vargs.getD 1 b']:=by
 obtain⟨l⟩:=vargs
 match l,h with
 | [a,b],_=>rfl
def AKI(a b:List UInt8):Option Int:=some (eL a b)
def xL:List AV->Rs
 | [.str a,.str b]=>⟨b9,.int .i64 (eL a b),[.any,.any]⟩
 | _=>cb
def RR:Ar:=⟨[.bor,.bor],b9,xL⟩
theorem ABz{a b:List UInt8}{i:Int}(h:AKI a b=b8 i):RR.F [.str a,.str b]=⟨b9,.int .i64 i,[.any,.any]⟩:=by
 cases h;rfl
theorem AIM:RR.modes=[.bor,.bor]:=rfl
theorem ACD:RR.flat=true:=rfl
attribute [go_sem] AIM ACD
theorem eN{args:List AV}(h:(xL args).ok=b9):∃ a b,args=[.str a,.str b]:=by
 unfold xL at h;split at h
 ·exact⟨_,_,rfl⟩
 ·cases h
theorem nh{P:bI}{f:cn}{fn:gj}(hf:P.funcs[f]? = b8 fn)(o:(fn.name == "runtime.NumGoroutine")=be)(hb:fn.body.isNone=b9)(hn:Extern.findNext fn=c6)
  (he:Extern.find fn=b8 Extern.BytealgCompare.compare):CF P f RR:=by
 refine⟨fun _=>rfl,fun F g0 w args vargs aa I C p=>⟨fun _=>?_,?_⟩⟩
 ·obtain⟨a,b,rfl⟩:=eN p;rfl
 ·obtain⟨a,b,rfl⟩:=eN p;have U:=GD C (i:=0) (by simp);have R:=GD C (i:=1) (by simp);rw[NF I];generalize vargs.getD 0 b'=x at U;generalize vargs.getD 1 b'=y at R;cases U;cases R
  unfold DD;rw[run_callFunc_extern hf o hb hn he,Lib.run_compareString];simp only[Result.andThen];refine⟨_,g0,[],id,rfl,Kb (AG.refl _ _) ?_ (fun i hi=>?_) (fun j J=>?_)⟩
  ·exact .int
  ·exact absurd hi.2 bR
  ·match j with
   | 0=>cases J
   | 1=>cases J
   | j+2=>simp[RR] at J
def AKE:List AV->Rs
 | [.str a,.int .u8 c]=>⟨b9,.int .i64 (Lib.indexByte a c.toNat.toUInt8),[.any,.any]⟩
 | _=>cb
def xt:Ar:=⟨[.bor,.bor],b9,AKE⟩
theorem AIK:xt.modes=[.bor,.bor]:=rfl
theorem ACA:xt.flat=true:=rfl
attribute [go_sem] AIK ACA
def AAx(n b:Int):Option (List UInt8):=if (b5 (-9223372036854775808<=n)&&b5 (n<=9223372036854775807)&&b5 (b=10))=b9 then b8 (e4 n) else c6
def ZR:List AV->Rs
 | [.int .i64 n,.int .i64 b]=>⟨b5 (-9223372036854775808<=n)&&b5 (n<=9223372036854775807)&&b5 (b=10),.str (e4 n),[.any,.any]⟩
 | _=>cb
def QF:Ar:=⟨[.bor,.bor],b9,ZR⟩
theorem ABy{n b:Int}{i:List UInt8}(h:AAx n b=b8 i):QF.F [.int .i64 n,.int .i64 b]=⟨b9,.str i,[.any,.any]⟩:=by
 unfold AAx at h;split at h
 ·rename_i j;cases h;show (⟨_,_,_⟩:Rs)=_;rw[j]
 ·cases h
theorem AIL:QF.modes=[.bor,.bor]:=rfl
theorem ACB:QF.flat=true:=rfl
attribute [go_sem] AIL ACB
theorem eK{args:List AV}(h:(ZR args).ok=b9):∃ n,-9223372036854775808<=n∧n<=9223372036854775807∧args=[.int .i64 n,.int .i64 10]∧ZR args=⟨b9,.str (e4 n),[.any,.any]⟩:=by
 unfold ZR at h ⊢;split at h
 ·rename_i n b;simp only[baT,dtE] at h;obtain⟨⟨i,h2⟩,rfl⟩:=h;exact⟨n,i,h2,rfl,by simp[i,h2]⟩
 ·cases h
theorem nf{P:bI}{f:cn}(hc:∀ (n:Int) (w:cI),-9223372036854775808<=n->n<=9223372036854775807->GT (fun _=>False) w ->
  DD P f #[.int .i64 n,.int .i64 10] w fun e w'=>e = .returned (.string ⟨(e4 n).toArray⟩)∧AG (fun _=>False) w w'):CF P f QF:=by
 refine⟨fun _=>rfl,fun F g0 w args vargs ac I o p=>⟨fun _=>?_,?_⟩⟩
 ·obtain⟨n,_,_,rfl,e⟩:=eK p;show OJ (ZR _).r=b9;rw[e];rfl
 ·obtain⟨n,R,J,rfl,e⟩:=eK p;have h0:=GD o (i:=0) (by simp);have h1:=GD o (i:=1) (by simp);rw[NF I];generalize vargs.getD 0 b'=x at h0;generalize vargs.getD 1 b'=y at h1;cases h0;cases h1
  refine (hc n w R J (o.tab.mono (AG.refl _ _) fun _ _ c=>c.elim)).mono fun e' w' ⟨he,hs⟩=>?_
  refine⟨_,g0,[],id,he,Kb hs ?_ (fun i hi=>?_) (fun j U=>?_)⟩
  ·show RV _ _ _ _ _ _ (ZR _).r;rw[e];exact .str
  ·have C:Jk (ZR _).r i:=hi;rw[e] at C;exact absurd C.2 bR
  ·match j with
   | 0=>cases U
   | 1=>cases U
   | j+2=>simp[QF] at U
def Pb:List AV->Option (List (List UInt8))
 | []=>b8 []
 | .str l::r=>(Pb r).map (l::·)
 | _::_=>c6
theorem YI:∀ ss:List (List UInt8),Pb (bN AV.str ss)=b8 ss
 | []=>rfl
 | s::r=>by simp[Pb,YI r]
theorem dI:∀ {els:List AV} {ss:List (List UInt8)},Pb els=b8 ss->els=bN AV.str ss
 | [],ss,h=>by simp[Pb] at h;subst h;rfl
 | a::r,ss,h=>by
  cases a<;>simp[Pb] at h
  obtain⟨ss',i,rfl⟩:=h;rw[dI i];rfl
def OZ:List AV->Option (List Int)
 | []=>b8 []
 | .int .i64 l::r=>(OZ r).map (l::·)
 | _::_=>c6
theorem TJ:∀ ss:List Int,OZ (bN (AV.int .i64) ss)=b8 ss
 | []=>rfl
 | s::r=>by simp[OZ,TJ r]
theorem eG:∀ {els:List AV} {ss:List Int},OZ els=b8 ss->els=bN (AV.int .i64) ss
 | [],ss,h=>by simp[OZ] at h;subst h;rfl
 | a::r,ss,h=>by
  cases a with
  | int k n=>
   cases k<;>simp[OZ] at h
   obtain⟨ss',i,rfl⟩:=h;rw[eG i];rfl
  | _=>simp[OZ] at h
def kj(j n:Nat)(i:Int)(m:Nat):Bool:=(b5 (0<=i)&&b5 (i<=(n:Int)))&&(b5 (m=1)&&b5 ((n+1)*j<=140737488355328))
def gE(j:Nat){α:Type}(l:List α)(i:Int)(v:List α):Option (List α):=if kj j l.length i v.length=b9 then b8 (l.take i.toNat++(v++l.drop i.toNat)) else c6
def eJ(K j:Nat):List AV->Rs
 | [.fresh sz els,.int .i64 i,.fresh sz2 xs]=>⟨(sz==K&&sz2==K)&&kj j els.length i xs.length,.fresh K (els.take i.toNat++(xs++els.drop i.toNat)),[.any,.any,.any]⟩
 | _=>cb
def II(K i:Nat):Ar:=⟨[.mov,.bor,.mov],be,eJ K i⟩
theorem mN(K:Nat){j:Nat}{α:Type}(f:α->AV){l:List α}{i:Int}{v o:List α}(h:gE j l i v=b8 o):(II K j).F [.fresh K (bN f l),.int .i64 i,.fresh K (bN f v)]=⟨b9,.fresh K (bN f o),[.any,.any,.any]⟩:=by
 unfold gE at h;split at h
 ·rename_i p;cases h;show eJ K j [.fresh K (bN f l),.int .i64 i,.fresh K (bN f v)]=_;unfold eJ;simp only[eu,p,beq_self_eq_true,fI,et,fm,fs]
 ·cases h
theorem eI{K j:Nat}{args:List AV}(h:(eJ K j args).ok=b9):∃ els i x,(0<=i∧i<=(els.length:Int))∧(els.length+1)*j<=140737488355328∧args=[.fresh K els,.int .i64 i,.fresh K [x]] ∧
  eJ K j args=⟨b9,.fresh K (els.take i.toNat++x::els.drop i.toNat),[.any,.any,.any]⟩:=by
 unfold eJ at h ⊢;split at h
 ·rename_i sz els i sz2 xs;have h2:=h;simp only[kj,baT,beq_iff_eq,dtE] at h2;obtain⟨⟨rfl,rfl⟩,⟨I,C⟩,p,o⟩:=h2
  match xs,p with
  | [x],_=>exact⟨els,i,x,⟨I,C⟩,o,rfl,congrArg (fun b=>(⟨b,.fresh sz2 (els.take i.toNat++x::els.drop i.toNat),[.any,.any,.any]⟩:Rs)) h⟩
 ·cases h
def cM(s p:List UInt8):Option (List UInt8×List UInt8×Bool):=if s.length<4294967281 then b8 (d' s p) else c6
def xK:List AV->Rs
 | [.str s,.str p]=>⟨b5 (s.length<4294967281),.tup [.str (d' s p).1,.str (d' s p).2.1,.bool (d' s p).2.2],[.any,.any]⟩
 | _=>cb
def QG:Ar:=⟨[.bor,.bor],b9,xK⟩
theorem VG{a b:List UInt8}{i:List UInt8×List UInt8×Bool}(h:cM a b=b8 i):QG.F [.str a,.str b]=⟨b9,.tup [.str i.1,.str i.2.1,.bool i.2.2],[.any,.any]⟩:=by
 unfold cM at h;split at h
 ·rename_i j;cases h;show (⟨_,_,_⟩:Rs)=_;rw[decide_eq_true j]
 ·cases h
theorem zJ:QG.modes=[.bor,.bor]:=rfl
theorem ACC:QG.flat=true:=rfl
attribute [go_sem] zJ ACC
theorem eM{args:List AV}(h:(xK args).ok=b9):∃ s p,s.length<4294967281∧args=[.str s,.str p]:=by
 unfold xK at h;split at h
 ·rename_i s p;exact⟨s,p,of_decide_eq_true h,rfl⟩
 ·cases h
theorem ABi{c:Ar}(hm:c.modes=[.bor,.bor])(j:Nat):c.modes[j]? ≠ b8 Md.io:=by
 rw[hm]
 match j with
 | 0=>intro h;cases h
 | 1=>intro h;cases h
 | j+2=>simp
theorem oY{c:Ar}(hm:c.modes=[.bor])(j:Nat):c.modes[j]? ≠ b8 Md.io:=by
 rw[hm]
 match j with
 | 0=>intro h;cases h
 | j+1=>simp
theorem ng{P:bI}{f:cn}(hc:∀ (s p:List UInt8) (w:cI),s.length<4294967281->GT (fun _=>False) w ->
  DD P f #[.string ⟨s.toArray⟩,.string ⟨p.toArray⟩] w fun e w'=>e = .returned (.tuple #[.string ⟨(d' s p).1.toArray⟩,.string ⟨(d' s p).2.1.toArray⟩,.bool (d' s p).2.2])∧AG (fun _=>False) w w'):CF P f QG:=by
 refine⟨fun _=>rfl,fun F g0 w args vargs ab I o C=>⟨fun _=>?_,?_⟩⟩
 ·obtain⟨s,p,_,rfl⟩:=eM C;rfl
 ·obtain⟨s,p,hl,rfl⟩:=eM C;have h0:=GD o (i:=0) (by simp);have U:=GD o (i:=1) (by simp);rw[NF I];generalize vargs.getD 0 b'=x at h0;generalize vargs.getD 1 b'=y at U;cases h0;cases U
  refine (hc s p w hl (o.tab.mono (AG.refl _ _) fun _ _ c=>c.elim)).mono fun e' w' ⟨he,hs⟩=>?_
  refine⟨_,g0,[],id,he,Kb hs ⟨_,rfl,rfl,fun j J=>?_⟩ (fun i hi=>?_) (ABi rfl)⟩
  ·match j,J with
   | 0,_=>exact .str
   | 1,_=>exact .str
   | 2,_=>exact .bool
  ·obtain⟨j,_,J,R⟩:=hi
   match j,J with
   | 0,_=>exact absurd R bR
   | 1,_=>exact absurd R bR
   | 2,_=>exact absurd R bR
def WI(s p:List UInt8):Option (List (List UInt8)):=if (b5 (s.length<4294967281)&&b5 (1<=p.length))=b9 then b8 (cc s p) else c6
def gB:List AV->Rs
 | [.str s,.str p]=>⟨b5 (s.length<4294967281)&&b5 (1<=p.length),.fresh 1 (bN AV.str (cc s p)),[.any,.any]⟩
 | _=>cb
def MX:Ar:=⟨[.bor,.bor],b9,gB⟩
theorem We{a b:List UInt8}{i:List (List UInt8)}(h:WI a b=b8 i):MX.F [.str a,.str b]=⟨b9,.fresh 1 (bN AV.str i),[.any,.any]⟩:=by
 unfold WI at h;split at h
 ·rename_i j;cases h;show (⟨_,_,_⟩:Rs)=_;rw[j]
 ·cases h
theorem mI:MX.modes=[.bor,.bor]:=rfl
theorem uc:MX.flat=true:=rfl
attribute [go_sem] mI uc
theorem Wv{args:List AV}(h:(gB args).ok=b9):∃ s p,s.length<4294967281∧1<=p.length∧args=[.str s,.str p]:=by
 unfold gB at h;split at h
 ·rename_i s p;have h:=ea.1 h;exact⟨s,p,of_decide_eq_true h.1,of_decide_eq_true h.2,rfl⟩
 ·cases h
theorem tW{S:Nat->Prop}{w:cI}{T:TypeId}(ss:List (List UInt8)):IK S (w.alloc (.cells (ss.map fun l=>Value.string ⟨l.toArray⟩).toArray T)) w.heap.size ss.length 1 (bN AV.str ss):=by
 have o:∀ i (hi:i<ss.length),(bN AV.str ss).getD i .any = .str ss[i]:=fun i hi=>by
  rw[gdE,cd,geE hi];rfl
 refine⟨cf _,by simp,fun i hi=>?_,fun C=>⟨(ss.map fun l=>Value.string ⟨l.toArray⟩).toArray,T,(0,0),by show (w.heap.push _)[w.heap.size]? = _;simp,.inl rfl,by simp,fun i j hi I=>?_⟩⟩
 ·rw[o i (by simpa using hi)];exact⟨rfl,rfl⟩
 ·obtain rfl:j=0:=by omega
  have p:i<ss.length:=by simpa using hi
  rw[o i p,Nat.mul_one,Nat.add_zero,agD];rw[List.getElem?_toArray,cd,geE p];exact .str
theorem gA{P:bI}{f:cn}{T:TypeId}(hc:∀ (s p:List UInt8) (w:cI),s.length<4294967281->1<=p.length->GT (fun _=>False) w ->
  DD P f #[.string ⟨s.toArray⟩,.string ⟨p.toArray⟩] w fun e w'=>e = .returned (.slice (b8 ⟨w.heap.size,0,c6⟩) (cc s p).length (cc s p).length)∧w'=w.alloc (.cells ((cc s p).map fun l=>Value.string ⟨l.toArray⟩).toArray T)):CF P f MX:=by
 refine⟨fun _=>rfl,fun F g0 w args vargs ad R o I=>⟨fun _=>?_,?_⟩⟩
 ·obtain⟨s,p,_,_,rfl⟩:=Wv I;show OJ (.fresh 1 (bN AV.str (cc s p)))=b9;simp only[OJ,RH,eV (f:=AV.str) (fun _=>rfl)]
 ·obtain⟨s,p,hl,hp,rfl⟩:=Wv I;have h0:=GD o (i:=0) (by simp);have h1:=GD o (i:=1) (by simp);rw[NF R];generalize vargs.getD 0 b'=x at h0;generalize vargs.getD 1 b'=y at h1;cases h0;cases h1
  refine (hc s p w hl hp (o.tab.mono (AG.refl _ _) fun _ _ c=>c.elim)).mono fun e' w' ⟨he,hs⟩=>?_
  subst hs
  have only:∀ k h,AK k [(0,(⟨1,bN AV.str (cc s p)⟩:Hm))]=b8 h->k=0∧h=⟨1,bN AV.str (cc s p)⟩:=by
   intro k h C;simp only[AK,AM,beq_iff_eq] at C;split at C
   ·rename_i e;cases C;exact⟨e.symm,rfl⟩
   ·cases C
  refine⟨_,⟨fun _=>w.heap.size,fun _=>(cc s p).length⟩,[(0,⟨1,bN AV.str (cc s p)⟩)],fun _=>0,he,⟨(AG.alloc (fun _=>False) w _).mono fun _ _ c=>c.elim,fun k h C=>?_,fun k k' a b _=>?_,fun k a hF=>?_,fun k a=>.inl (cf _),⟨rfl,?_⟩,fun i j hi J _=>?_,fun i j _ J=>absurd J (ABi rfl j),fun j J=>absurd J (ABi rfl j)⟩⟩
  ·obtain⟨rfl,rfl⟩:=only k h C;exact tW _
  ·obtain⟨⟨h,C⟩,_⟩:=a;obtain⟨⟨h',U⟩,_⟩:=b;rw[(only k h C).1,(only k' h' U).1]
  ·exact absurd (o.fb _ hF) (Nat.lt_irrefl _)
  ·left;simp
  ·rw[hi.1,J.1]
def fl(l:List (List UInt8))(p:List UInt8):Bool:=b5 (l.length<=1048576)&&b5 ((fA l p).length<=140737488355328)
def Wx(l:List (List UInt8))(p:List UInt8):Option (List UInt8):=if fl l p=b9 then b8 (fA l p) else c6
def RC:List AV->Rs
 | [.sl sz els,.str p]=>match Pb els with
  | some l=>⟨fl l p,.str (fA l p),[.any,.any]⟩
  | none=>cb
 | _=>cb
def Kh:Ar:=⟨[.bor,.bor],b9,RC⟩
theorem bE{a:List (List UInt8)}{b i:List UInt8}(h:Wx a b=b8 i):Kh.F [.sl 1 (bN AV.str a),.str b]=⟨b9,.str i,[.any,.any]⟩:=by
 unfold Wx at h;split at h
 ·rename_i j;cases h;show RC [AV.sl 1 (bN AV.str a),AV.str b]=_;unfold RC;simp only[YI,j]
 ·cases h
theorem ABw:Kh.modes=[.bor,.bor]:=rfl
theorem zV:Kh.flat=true:=rfl
attribute [go_sem] ABw zV
def CK(s:List UInt8):Int×Bool :=if (fy s [45]).length<1∨18<(fy s [45]).length then (0,be) else match Lib.parseIntB 64 s with
 | .ok v=>if e4 v=s then (v,b9) else (0,be)
 | _=>(0,be)
def La(s:List UInt8):Option (Int×Bool):=if s.length<=281474976710656 then b8 (CK s) else c6
def gD:List AV->Rs
 | [.str s]=>⟨b5 (s.length<=281474976710656),.tup [.int .i64 (CK s).1,.bool (CK s).2],[.any]⟩
 | _=>cb
def Lg:Ar:=⟨[.bor],b9,gD⟩
theorem fM{a:List UInt8}{i:Int×Bool}(h:La a=b8 i):Lg.F [.str a]=⟨b9,.tup [.int .i64 i.1,.bool i.2],[.any]⟩:=by
 unfold La at h;split at h
 ·rename_i j;cases h;show (⟨_,_,_⟩:Rs)=_;rw[decide_eq_true j]
 ·cases h
theorem mJ:Lg.modes=[.bor]:=rfl
theorem ue:Lg.flat=true:=rfl
attribute [go_sem] mJ ue
theorem Ww{args:List AV}(h:(gD args).ok=b9):∃ s:List UInt8,s.length<=281474976710656∧args=[.str s]:=by
 unfold gD at h;split at h
 ·rename_i s;exact⟨s,of_decide_eq_true h,rfl⟩
 ·cases h
theorem NG{vargs:Array Value}(h:vargs.size=1):vargs = #[vargs.getD 0 b']:=by
 obtain⟨l⟩:=vargs
 match l,h with
 | [a],_=>rfl
theorem gC{P:bI}{f:cn}(hc:∀ (s:List UInt8) (w:cI),s.length<=281474976710656->GT (fun _=>False) w ->
  DD P f #[.string ⟨s.toArray⟩] w fun e w'=>e = .returned (.tuple #[.int .i64 (CK s).1,.bool (CK s).2])∧AG (fun _=>False) w w'):CF P f Lg:=by
 refine⟨fun _=>rfl,fun F g0 w args vargs U C p o=>⟨fun _=>?_,?_⟩⟩
 ·obtain⟨s,_,rfl⟩:=Ww o;rfl
 ·obtain⟨s,hl,rfl⟩:=Ww o;have R:=GD p (i:=0) (by simp);rw[NG C];generalize vargs.getD 0 b'=x at R;cases R
  refine (hc s w hl (p.tab.mono (AG.refl _ _) fun _ _ c=>c.elim)).mono fun e' w' ⟨he,hs⟩=>?_
  refine⟨_,g0,[],id,he,Kb hs ⟨_,rfl,rfl,fun j I=>?_⟩ (fun i hi=>?_) (oY rfl)⟩
  ·match j,I with
   | 0,_=>exact .int
   | 1,_=>exact .bool
  ·obtain⟨j,_,I,J⟩:=hi
   match j,I with
   | 0,_=>exact absurd J bR
   | 1,_=>exact absurd J bR
def kH(l:List Int):Bool:=b5 (0<l.length)&&b5 (l.length<=9223372036854775807)
def qd(l:List Int):Option Int:=if kH l=b9 then b8 (ew l) else c6
def eH(l:List Int):Option Int:=if kH l=b9 then b8 (ev l) else c6
def wR(f:List Int->Int):List AV->Rs
 | [.sl sz els]=>match OZ els with
  | some l=>⟨kH l,.int .i64 (f l),[.any]⟩
  | none=>cb
 | _=>cb
def QE:Ar:=⟨[.bor],b9,wR ew⟩
def ON:Ar:=⟨[.bor],b9,wR ev⟩
theorem zP{a:List Int}{i:Int}(h:qd a=b8 i):QE.F [.sl 1 (bN (AV.int .i64) a)]=⟨b9,.int .i64 i,[.any]⟩:=by
 unfold qd at h;split at h
 ·rename_i j;cases h;show wR ew [AV.sl 1 (bN (AV.int .i64) a)]=_;unfold wR;simp only[TJ,j]
 ·cases h
theorem zO{a:List Int}{i:Int}(h:eH a=b8 i):ON.F [.sl 1 (bN (AV.int .i64) a)]=⟨b9,.int .i64 i,[.any]⟩:=by
 unfold eH at h;split at h
 ·rename_i j;cases h;show wR ev [AV.sl 1 (bN (AV.int .i64) a)]=_;unfold wR;simp only[TJ,j]
 ·cases h
theorem ABv:QE.modes=[.bor]:=rfl
theorem zU:QE.flat=true:=rfl
theorem ABu:ON.modes=[.bor]:=rfl
theorem zT:ON.flat=true:=rfl
attribute [go_sem] ABv zU ABu zT
theorem pX{f:List Int->Int}{args:List AV}(h:(wR f args).ok=b9):∃ sz l,0<l.length∧l.length<=9223372036854775807∧args=[.sl sz (bN (AV.int .i64) l)]∧(wR f args).r = .int .i64 (f l):=by
 unfold wR at h;split at h
 ·rename_i sz els;split at h
  ·rename_i l hl;have i:kH l=true:=h;have h:=ea.1 i;refine⟨sz,l,of_decide_eq_true h.1,of_decide_eq_true h.2,by rw[eG hl],?_⟩;simp only[wR,hl]
  ·cases h
 ·cases h
@[go_sem]abbrev hF(x:Int):Int:=i64.wrap ((u64.wrap (bb.wrap x)).fdiv (2^(min 1 64)))
structure Star where
 Name:List UInt8
 Ascend:Int
 Decl:Int
 Bright:Int
 Faint:Int
 deriving Inhabited,DecidableEq
def Ao(x:Star):AV:=.agg ([.str x.Name,.int .i64 x.Ascend,.int .i64 x.Decl,.int .i64 x.Bright,.int .i64 x.Faint])
structure AA where
 Time:Int
 Star:List UInt8
 Observer:List UInt8
 Mag:Int
 Fainter:Bool
 deriving Inhabited,DecidableEq
def AC(x:AA):AV:=.agg ([.int .i64 x.Time,.str x.Star,.str x.Observer,.int .i64 x.Mag,.bool x.Fainter])
structure Bp where
 Stars:List Star
 Estimates:List AA
 Log:List UInt8
 deriving Inhabited,DecidableEq
def EL(x:Bp):AV:=.agg ([.sl 5 (bN Ao x.Stars),.sl 5 (bN AC x.Estimates),.str x.Log])
structure EM where
 words_:List (List UInt8)
 numbers_:List Int
 fainter_:Bool
 wrong_:Bool
 deriving Inhabited,DecidableEq
def Ns(x:EM):AV:=.agg ([.sl 1 (bN AV.str x.words_),.sl 1 (bN (AV.int .i64) x.numbers_),.bool x.fainter_,.bool x.wrong_])
structure AW where
 Day:Int
 What:List UInt8
 Value:Int
 deriving Inhabited,DecidableEq
def Bz(x:AW):AV:=.agg ([.int .i64 x.Day,.str x.What,.int .i64 x.Value])
structure AJ where
 Time:Int
 Mag:Int
 deriving Inhabited,DecidableEq
def AP(x:AJ):AV:=.agg ([.int .i64 x.Time,.int .i64 x.Mag])
structure CB where
 From:Int
 To:Int
 Step:Int
 deriving Inhabited,DecidableEq
def PU(x:CB):AV:=.agg ([.int .i64 x.From,.int .i64 x.To,.int .i64 x.Step])
structure AF where
 Epoch:Int
 Period:Int
 deriving Inhabited,DecidableEq
def BK(x:AF):AV:=.agg ([.int .i64 x.Epoch,.int .i64 x.Period])
structure Gf where
 s_:List UInt8
 at_:Int
 stamp_:Int
 list_:List AW
 deriving Inhabited,DecidableEq
def Ec(x:Gf):AV:=.agg ([.str x.s_,.int .i64 x.at_,.int .i64 x.stamp_,.sl 3 (bN Bz x.list_)])
@[go_sem]theorem xW(x:Star):Star.mk x.Name x.Ascend x.Decl x.Bright x.Faint=x:=rfl
@[go_sem]theorem gL(x:AA):AA.mk x.Time x.Star x.Observer x.Mag x.Fainter=x:=rfl
@[go_sem]theorem xY(x:Bp):Bp.mk x.Stars x.Estimates x.Log=x:=rfl
@[go_sem]theorem lN(x:EM):EM.mk x.words_ x.numbers_ x.fainter_ x.wrong_=x:=rfl
@[go_sem]theorem uA(x:AW):AW.mk x.Day x.What x.Value=x:=rfl
@[go_sem]theorem tz(x:AJ):AJ.mk x.Time x.Mag=x:=rfl
@[go_sem]theorem nw(x:CB):CB.mk x.From x.To x.Step=x:=rfl
@[go_sem]theorem cO(x:AF):AF.mk x.Epoch x.Period=x:=rfl
@[go_sem]theorem xX(x:Gf):Gf.mk x.s_ x.at_ x.stamp_ x.list_=x:=rfl
attribute [go_sem] Ao AC EL Ns Bz AP PU BK Ec
def KJ :Option Bp :=some (Bp.mk ([]:List Star) ([]:List AA) [])
def CG (i:List Star):Option (List Star) :=ck (DH (([]:List Star).length+i.length) 48) <|some (([]:List Star)++i)
def Bb (i:List AA):Option (List AA) :=ck (DH (([]:List AA).length+i.length) 56) <|some (([]:List AA)++i)
def DM (i:Int):Option (List UInt8) :=if ((b5 (i<0))||(b5 ((([([111,107]:List UInt8),([105,110,118,97,108,105,100]:List UInt8),([114,97,110,103,101]:List UInt8),([110,111,116,45,102,111,117,110,100]:List UInt8),([101,120,105,115,116,115]:List UInt8),([102,117,108,108]:List UInt8),([115,116,97,116,101]:List UInt8),([115,121,110,116,97,120]:List UInt8),([102,111,114,109,97,116]:List UInt8),([99,108,97,115,104]:List UInt8),([99,108,111,117,100,121]:List UInt8)]:List (List UInt8)).length:Int)<=i))) then b8 ([]:List UInt8) else ck (AU i (([([111,107]:List UInt8),([105,110,118,97,108,105,100]:List UInt8),([114,97,110,103,101]:List UInt8),([110,111,116,45,102,111,117,110,100]:List UInt8),([101,120,105,115,116,115]:List UInt8),([102,117,108,108]:List UInt8),([115,116,97,116,101]:List UInt8),([115,121,110,116,97,120]:List UInt8),([102,111,114,109,97,116]:List UInt8),([99,108,97,115,104]:List UInt8),([99,108,111,117,100,121]:List UInt8)]:List (List UInt8)).length)) <|some (([([111,107]:List UInt8),([105,110,118,97,108,105,100]:List UInt8),([114,97,110,103,101]:List UInt8),([110,111,116,45,102,111,117,110,100]:List UInt8),([101,120,105,115,116,115]:List UInt8),([102,117,108,108]:List UInt8),([115,116,97,116,101]:List UInt8),([115,121,110,116,97,120]:List UInt8),([102,111,114,109,97,116]:List UInt8),([99,108,97,115,104]:List UInt8),([99,108,111,117,100,121]:List UInt8)]:List (List UInt8)).getD i.toNat a')
def Bg (i:List UInt8):Option (List UInt8) :=if (i==([115,116,97,114]:List UInt8)) then b8 ([119,110,110,109,109]:List UInt8) else if (i==([101,115,116]:List UInt8)) then b8 ([110,119,119,102]:List UInt8) else if (i==([99,117,114,118,101]:List UInt8)) then b8 ([119]:List UInt8) else if (i==([97,109,112]:List UInt8)) then b8 ([119]:List UInt8) else if (i==([108,97,115,116]:List UInt8)) then b8 ([119]:List UInt8) else if (i==([98,101,115,116]:List UInt8)) then b8 ([119,110,110,110]:List UInt8) else if (i==([102,111,108,100]:List UInt8)) then b8 ([119,110]:List UInt8) else if (i==([112,97,105,114,115]:List UInt8)) then b8 ([110,110]:List UInt8) else if (i==([101,110,116,101,114]:List UInt8)) then b8 ([110,119,110]:List UInt8) else b8 ([]:List UInt8)
def Gc :Option (List (List UInt8)) :=some ([([97,109,112]:List UInt8),([98,101,115,116]:List UInt8),([99,117,114,118,101]:List UInt8),([101,110,116,101,114]:List UInt8),([101,115,116]:List UInt8),([102,111,108,100]:List UInt8),([108,97,115,116]:List UInt8),([108,111,103]:List UInt8),([112,97,105,114,115]:List UInt8),([115,116,97,114]:List UInt8)]:List (List UInt8))
def CJ(s_:List (List UInt8))(v:List UInt8)(j:Int):Int->Option (Int⊕(Unit⊕Int))
 | i=>if (b5 (i<j)) then ck (AU i s_.length) <|if (v==(s_.getD i.toNat a')) then b8 (.inr (.inr i)) else b8 (.inl (bb.wrap (i+1))) else b8 (.inr (.inl ()))
def DW(s_:List (List UInt8))(v:List UInt8):Option Int :=(AE (CJ s_ v (s_.length:Int)) 0).bind fun j=>match j with
 | .inl o=>b8 (-1)
 | .inr i=>b8 i
def Bj(s_:List (List UInt8))(v:List UInt8):Option Bool :=(DW s_ v).bind fun i=>b8 (b5 (0<=i))
def Cs(s_ i:List UInt8):Option Bool :=ck (!(b5 ((i.length:Int)<=(s_.length:Int)))||If 0 (i.length:Int) s_.length) <|some ((b5 ((i.length:Int)<=(s_.length:Int)))&&((cut s_ 0 (i.length:Int))==i))
def CA(s_ i:List UInt8):Option ((List UInt8)×Bool) :=(Cs s_ i).bind fun j=>if (!j) then b8 (s_,be) else ck (If (i.length:Int) (s_.length:Int) s_.length) <|some ((cut s_ (i.length:Int) (s_.length:Int)),b9)
def CX(s_ i:List UInt8):Option ((List UInt8)×Bool) :=(CA s_ i).bind fun j=>b8 (j.1,j.2)
def Dk(n low i:Int):Option Bool :=some ((b5 (low<=n))&&(b5 (n<=i)))
def BT (m:Int):Option Bool :=(Dk m (-2000) 20000).bind fun i=>b8 i
def EC (n:Int):Option Int :=if (b5 (n<0)) then b8 (bb.wrap (0-n)) else b8 n
def Hc(i base:Int):Option (List UInt8) :=(AAx i base).bind fun j=>b8 j
def BJ (n:Int):Option (List UInt8) :=(Hc n 10).bind fun i=>b8 i
def IV (i:Int):(List UInt8)->Option ((List UInt8)⊕(List UInt8))
 | s_=>if (b5 ((s_.length:Int)<i)) then ck (CN ([48]:List UInt8).length s_.length) <|some (.inl (([48]:List UInt8)++s_)) else b8 (.inr s_)
def Im(n i:Int):Option (List UInt8) :=(BJ n).bind fun o=>(AE (IV i) o).bind fun j=>b8 j
def DT (m:Int):Option (List UInt8) :=(BT m).bind fun J=>if (!J) then b8 ([]:List UInt8) else if (b5 (m<0)) then (EC m).bind fun I=>ck (nz 1000) <|(BJ (bb.wrap (I.tdiv 1000))).bind fun j=>ck (CN ([45]:List UInt8).length j.length) <|ck (CN (([45]:List UInt8)++j).length ([46]:List UInt8).length) <|(Im (I.tmod 1000) 3).bind fun C=>ck (CN ((([45]:List UInt8)++j)++([46]:List UInt8)).length C.length) <|some (((([45]:List UInt8)++j)++([46]:List UInt8))++C) else (EC m).bind fun p=>ck (nz 1000) <|(BJ (bb.wrap (p.tdiv 1000))).bind fun i=>ck (CN ([]:List UInt8).length i.length) <|ck (CN (([]:List UInt8)++i).length ([46]:List UInt8).length) <|(Im (p.tmod 1000) 3).bind fun o=>ck (CN ((([]:List UInt8)++i)++([46]:List UInt8)).length o.length) <|some (((([]:List UInt8)++i)++([46]:List UInt8))++o)
def CC(s_:List UInt8)(o:Bool)(j:List UInt8)(p:List Int)(C:Int):(Int×Int)->Option ((Int×Int)⊕Int)
 | (m,i)=>if (b5 (i<C)) then ck (AU i p.length) <|ck (AU i j.length) <|some (.inl ((bb.wrap (m+(bb.wrap ((p.getD i.toNat a')*(bb.wrap (bS.wrap (((j.getD i.toNat 0).toNat:Int)-48))))))),(bb.wrap (i+1)))) else b8 (.inr m)
def CH (s_:List UInt8):Option (Int×Bool) :=(CX s_ ([45]:List UInt8)).bind fun p=>(cM p.1 ([46]:List UInt8)).bind fun o=>(La o.1).bind fun i=>ck (!(!(!i.2))||(Dk i.1 0 20).isSome) <|if (((!i.2)||(!((Dk i.1 0 20).getD a')))||(!((o.2.1.length:Int)==3))) then b8 (0,be) else (AE (CC s_ p.2 o.2.1 ([100,10,1]:List Int) (([100,10,1]:List Int).length:Int)) ((bb.wrap (i.1*1000)),0)).bind fun j=>if p.2 then (DT (bb.wrap (0-j))).bind fun I=>if (!(I==s_)) then b8 (0,be) else b8 ((bb.wrap (0-j)),b9) else (DT j).bind fun C=>if (!(C==s_)) then b8 (0,be) else b8 (j,b9)
def AX (kinds:List UInt8):Nat->List (List UInt8)->List Int->Bool->Bool->Option (List Int×Bool×Bool)
 | _,[],j,f,b=>b8 (j,f,b)
 | i,w::r,j,f,b=>ck (b5 (i<kinds.length)) <|ck (b5 (i+1<j.length)) <|if (kinds.getD i 0==110)=b9 then (La w).bind fun y=>AX kinds (i+1) r (j.set (i+1) y.1) f (b || !y.2) else if (kinds.getD i 0==109)=b9 then (CH w).bind fun y=>AX kinds (i+1) r (j.set (i+1) y.1) f (b || !y.2) else if (kinds.getD i 0==102)=b9 then (CX w [60]).bind fun z=>(CH z.1).bind fun y=>AX kinds (i+1) r (j.set (i+1) y.1) z.2 (b || !y.2) else AX kinds (i+1) r j f b
def CV (line:List UInt8):Option (EM×Bool) :=(WI line [32]).bind fun i=>ck (b5 (0<i.length)&&b5 (i.length<=1099511627776)) <|(Bg (i.getD 0 a')).bind fun kinds=>Gc.bind fun j=>(Bj j (i.getD 0 a')).bind fun c=>if (!c || !((i.length:Int)==(kinds.length:Int)+1)) then b8 (⟨[],[],be,be⟩,be) else (AX kinds 0 (i.drop 1) (fa i.length 0) be be).bind fun y=>b8 (⟨i,y.1,y.2.1,y.2.2⟩,b9)
def ED (t:Int):Option Bool :=(Dk t 0 10000000).bind fun i=>b8 i
def Ia(s_:List UInt8)(j:Int):Int->Option (Int⊕(Unit⊕Bool))
 | i=>if (b5 (i<j)) then ck (AU i s_.length) <|if ((!((b5 (97<=((s_.getD i.toNat 0).toNat:Int)))&&(b5 (((s_.getD i.toNat 0).toNat:Int)<=122))))&&((i==0)||(!(((b5 (48<=((s_.getD i.toNat 0).toNat:Int)))&&(b5 (((s_.getD i.toNat 0).toNat:Int)<=57)))||(((s_.getD i.toNat 0).toNat:Int)==45))))) then b8 (.inr (.inr be)) else b8 (.inl (bb.wrap (i+1))) else b8 (.inr (.inl ()))
def By (s_:List UInt8):Option Bool :=if ((b5 ((s_.length:Int)<1))||(b5 (12<(s_.length:Int)))) then b8 be else (AE (Ia s_ (s_.length:Int)) 0).bind fun j=>match j with
  | .inl o=>b8 b9
  | .inr i=>b8 i
def Fj (i:AA):Option Bool :=(ED i.Time).bind fun j=>ck (!j||(By i.Star).isSome) <|ck (!(j&&((By i.Star).getD a'))||(By i.Observer).isSome) <|ck (!((j&&((By i.Star).getD a'))&&((By i.Observer).getD a'))||(BT i.Mag).isSome) <|some (((j&&((By i.Star).getD a'))&&((By i.Observer).getD a'))&&((BT i.Mag).getD a'))
def HJ (x:Int):Option Bool :=some (!(x==x))
def Fb(x y:Int):Option Int :=(HJ x).bind fun j=>(HJ y).bind fun i=>if j then if i then b8 0 else b8 (-1) else if i then b8 1 else if (b5 (x<y)) then b8 (-1) else if (b5 (y<x)) then b8 1 else b8 0
def Dj(a b:List UInt8):Option Int :=(AKI a b).bind fun i=>b8 i
def Gr(a b:List UInt8):Option Int :=(Dj a b).bind fun i=>b8 i
def JT(zero:Int)(j:List Int)(o:Int):Int->Option (Int⊕(Unit⊕Int))
 | i=>if (b5 (i<o)) then ck (AU i j.length) <|if (!((j.getD i.toNat a')==zero)) then b8 (.inr (.inr (j.getD i.toNat a'))) else b8 (.inl (bb.wrap (i+1))) else b8 (.inr (.inl ()))
def Kn (i:List Int):Option Int :=(AE (JT 0 i (i.length:Int)) 0).bind fun o=>match o with
 | .inl p=>b8 0
 | .inr j=>b8 j
def BV(a b:AA):Option Int :=(Fb a.Time b.Time).bind fun p=>(Gr a.Star b.Star).bind fun o=>(Gr a.Observer b.Observer).bind fun j=>(Kn ([p,o,j]:List Int)).bind fun i=>b8 i
def DB(i o:List AA)(t9:Int):Int->Option (Int⊕(Unit⊕Bool))
 | t10=>if (b5 (t10<t9)) then ck (AU t10 o.length) <|(Fj (o.getD t10.toNat a')).bind fun j=>ck (!((!(!j))&&(b5 (0<t10)))||AU (bb.wrap (t10-1)) i.length) <|ck (!((!(!j))&&(b5 (0<t10)))||(BV (i.getD (bb.wrap (t10-1)).toNat a') (o.getD t10.toNat a')).isSome) <|if ((!j)||((b5 (0<t10))&&(b5 (0<=((BV (i.getD (bb.wrap (t10-1)).toNat a') (o.getD t10.toNat a')).getD a'))))) then b8 (.inr (.inr be)) else b8 (.inl (bb.wrap (t10+1))) else b8 (.inr (.inl ()))
def BZ (i:List AA):Option Bool :=if (b5 (100<(i.length:Int))) then b8 be else (AE (DB i i (i.length:Int)) 0).bind fun o=>match o with
  | .inl p=>b8 b9
  | .inr j=>b8 j
def Hq(j:List AA)(i:List UInt8):Option (AA×Int) :=(BZ j).bind fun y=>if (!y) then b8 ((AA.mk 0 [] [] 0 be),1) else (By i).bind fun z=>if (!z) then b8 ((AA.mk 0 [] [] 0 be),2) else match j.reverse.find? (fun e=>e.Star==i) with
 | some e=>b8 (e,0)
 | none=>b8 ((AA.mk 0 [] [] 0 be),3)
def Eg(a b:AA)(i:Int):Option Bool :=if (a.Fainter&&b.Fainter) then b8 be else if a.Fainter then b8 (b5 ((bb.wrap (b.Mag+i))<a.Mag)) else if b.Fainter then b8 (b5 ((bb.wrap (a.Mag+i))<b.Mag)) else (EC (bb.wrap (a.Mag-b.Mag))).bind fun j=>b8 (b5 (i<j))
def DC(i k:Int)(j:List AA)(t3 o:Int):Option Bool :=ck (AU i j.length) <|ck (AU k j.length) <|ck (!(((j.getD i.toNat a').Star)==((j.getD k.toNat a').Star))||(EC (bb.wrap (((j.getD i.toNat a').Time)-((j.getD k.toNat a').Time)))).isSome) <|ck (!((((j.getD i.toNat a').Star)==((j.getD k.toNat a').Star))&&(b5 (((EC (bb.wrap (((j.getD i.toNat a').Time)-((j.getD k.toNat a').Time)))).getD a')<=t3)))||(Eg (j.getD i.toNat a') (j.getD k.toNat a') o).isSome) <|some (((((j.getD i.toNat a').Star)==((j.getD k.toNat a').Star))&&(b5 (((EC (bb.wrap (((j.getD i.toNat a').Time)-((j.getD k.toNat a').Time)))).getD a')<=t3)))&&((Eg (j.getD i.toNat a') (j.getD k.toNat a') o).getD a'))
def Ad(n:Int)(c:List AA)(c2 c3 i t9 t10:Int):((List (List Int))×Int)->Option (((List (List Int))×Int)⊕(List (List Int)))
 | (out,k)=>if (b5 (k<n)) then (DC i k c c2 c3).bind fun j=>if j then ck (DH (out.length+([([i,k]:List Int)]:List (List Int)).length) 24) <|some (.inl ((out++([([i,k]:List Int)]:List (List Int))),(bb.wrap (k+1)))) else b8 (.inl (out,(bb.wrap (k+1)))) else b8 (.inr out)
def AZ(n:Int)(c:List AA)(c2 c3 t9:Int):((List (List Int))×Int)->Option (((List (List Int))×Int)⊕(List (List Int)))
 | (out,t10)=>if (b5 (t10<t9)) then (AE (Ad n c c2 c3 t10 t9 t10) (out,(bb.wrap (t10+1)))).bind fun i=>b8 (.inl (i,(bb.wrap (t10+1)))) else b8 (.inr out)
def BS(n:Int)(o:List AA)(j i:Int):Option (List (List Int)) :=(AE (AZ n o j i n) (([]:List (List Int)),0)).bind fun p=>b8 p
def Cl(i:List AA)(j o:Int):Option ((List (List Int))×Int) :=(BZ i).bind fun I=>if (!I) then b8 (([]:List (List Int)),1) else (Dk j 0 100000).bind fun p=>ck (!(!(!p))||(Dk o 1 20000).isSome) <|if ((!p)||(!((Dk o 1 20000).getD a'))) then b8 (([]:List (List Int)),2) else (BS (i.length:Int) i j o).bind fun C=>b8 (C,0)
def Jt (x:Star):Option Bool :=(Dk x.Ascend 0 86399).bind fun i=>ck (!i||(Dk x.Decl (-324000) 324000).isSome) <|(By x.Name).bind fun j=>ck (!(j&&(i&&((Dk x.Decl (-324000) 324000).getD a')))||(BT x.Bright).isSome) <|ck (!((j&&(i&&((Dk x.Decl (-324000) 324000).getD a')))&&((BT x.Bright).getD a'))||(BT x.Faint).isSome) <|some ((((j&&(i&&((Dk x.Decl (-324000) 324000).getD a')))&&((BT x.Bright).getD a'))&&((BT x.Faint).getD a'))&&(b5 (x.Bright<=x.Faint)))
def Cx (x:Star):Option (List UInt8) :=some x.Name
def Ac(j p:List Star)(C:Int):Int->Option (Int⊕(Unit⊕Bool))
 | i=>if (b5 (i<C)) then ck (AU i p.length) <|(Jt (p.getD i.toNat a')).bind fun o=>ck (!((!(!o))&&(b5 (0<i)))||AU (bb.wrap (i-1)) j.length) <|ck (!((!(!o))&&(b5 (0<i)))||(Cx (j.getD (bb.wrap (i-1)).toNat a')).isSome) <|ck (!((!(!o))&&(b5 (0<i)))||(Cx (p.getD i.toNat a')).isSome) <|if ((!o)||((b5 (0<i))&&(!(cA ((Cx (j.getD (bb.wrap (i-1)).toNat a')).getD a') ((Cx (p.getD i.toNat a')).getD a'))))) then b8 (.inr (.inr be)) else b8 (.inl (bb.wrap (i+1))) else b8 (.inr (.inl ()))
def BH(i:List Star)(o:Int):Option Bool :=if (b5 (o<(i.length:Int))) then b8 be else (AE (Ac i i (i.length:Int)) 0).bind fun p=>match p with
  | .inl C=>b8 b9
  | .inr j=>b8 j
def Gx (i:List Star):Option Bool :=(BH i 60).bind fun j=>b8 j
def JL(x:Star)(i:List UInt8):Option Bool :=some (x.Name==i)
def Ah(s_:List Star)(c:List UInt8)(o:Int):Int->Option (Int⊕(Unit⊕Int))
 | i=>if (b5 (i<o)) then ck (AU i s_.length) <|(JL (s_.getD i.toNat a') c).bind fun j=>if j then b8 (.inr (.inr i)) else b8 (.inl (bb.wrap (i+1))) else b8 (.inr (.inl ()))
def Aw(s_:List Star)(j:List UInt8):Option Int :=(AE (Ah s_ j (s_.length:Int)) 0).bind fun o=>match o with
 | .inl p=>b8 (-1)
 | .inr i=>b8 i
def Al(s_:List Star)(i:List UInt8):Option Bool :=(Aw s_ i).bind fun j=>b8 (b5 (0<=j))
def Fz(j:List Star)(i:List UInt8):Option Bool :=(Al j i).bind fun o=>b8 o
def As(i:List Star)(x:Star):Int->Option (Int⊕Int)
 | k=>ck (!(b5 (k<(i.length:Int)))||AU k i.length) <|ck (!(b5 (k<(i.length:Int)))||(Cx (i.getD k.toNat a')).isSome) <|ck (!(b5 (k<(i.length:Int)))||(Cx x).isSome) <|if ((b5 (k<(i.length:Int)))&&(cA ((Cx (i.getD k.toNat a')).getD a') ((Cx x).getD a'))) then b8 (.inl (bb.wrap (k+1))) else b8 (.inr k)
def Bk(i:List Star)(x:Star):Option (List Star) :=(AE (As i x) 0).bind fun p=>(CG i).bind fun o=>(gE 48 o p ([x]:List Star)).bind fun j=>b8 j
def Iz(i:List Star)(x:Star):Option ((List Star)×Int) :=(Gx i).bind fun C=>if (!C) then b8 (([]:List Star),1) else (Jt x).bind fun p=>if (!p) then b8 (([]:List Star),2) else (Fz i x.Name).bind fun o=>if o then b8 (([]:List Star),4) else if ((i.length:Int)==60) then b8 (([]:List Star),5) else (Bk i x).bind fun j=>b8 (j,0)
def AI(x:List AA)(o:AA)(n:Int):(Int×Int)->Option ((Int×Int)⊕Int)
 | (i,j)=>if (b5 (i<j)) then ck (SL 1) <|ck (AU (hF (i+j)) x.length) <|(BV (x.getD (hF (i+j)).toNat a') o).bind fun p=>if (b5 (p<0)) then b8 (.inl ((bb.wrap ((hF (i+j))+1)),j)) else b8 (.inl (i,(hF (i+j)))) else b8 (.inr i)
def AL(x:List AA)(i:AA):Option (Int×Bool) :=(AE (AI x i (x.length:Int)) (0,(x.length:Int))).bind fun j=>ck (!(b5 (j<(x.length:Int)))||AU j x.length) <|ck (!(b5 (j<(x.length:Int)))||(BV (x.getD j.toNat a') i).isSome) <|some (j,((b5 (j<(x.length:Int)))&&(((BV (x.getD j.toNat a') i).getD a')==0)))
def Dm(i:List AA)(J:AA):Option ((List AA)×Int) :=(BZ i).bind fun I=>if (!I) then b8 (([]:List AA),1) else (Fj J).bind fun C=>if (!C) then b8 (([]:List AA),2) else (AL i J).bind fun j=>if j.2 then b8 (([]:List AA),4) else if ((i.length:Int)==100) then b8 (([]:List AA),5) else (Bb i).bind fun p=>(gE 56 p j.1 ([J]:List AA)).bind fun o=>b8 (o,0)
def EI (j:AW):Option (List UInt8) :=(BJ j.Day).bind fun i=>ck (CN i.length ([32]:List UInt8).length) <|ck (CN (i++([32]:List UInt8)).length j.What.length) <|ck (CN ((i++([32]:List UInt8))++j.What).length ([32]:List UInt8).length) <|(BJ j.Value).bind fun o=>ck (CN (((i++([32]:List UInt8))++j.What)++([32]:List UInt8)).length o.length) <|some ((((i++([32]:List UInt8))++j.What)++([32]:List UInt8))++o)
def MF(i:List UInt8)(p:Int):(Int×Int)->Option ((Int×Int)⊕Int)
 | (o,j)=>if (b5 (j<p)) then ck (AU j i.length) <|ck (nz 65521) <|some (.inl (((bb.wrap ((bb.wrap (31*o))+((i.getD j.toNat 0).toNat:Int))).tmod 65521),(bb.wrap (j+1)))) else b8 (.inr o)
def IH(i:Int)(p:AW):Option Int :=ck (nz 65521) <|(EI p).bind fun j=>(AE (MF j (j.length:Int)) (((bb.wrap (i+23)).tmod 65521),0)).bind fun o=>b8 o
def LC(p:AW)(o:Int):Option (List UInt8) :=(EI p).bind fun i=>ck (CN i.length ([32]:List UInt8).length) <|(BJ o).bind fun j=>ck (CN (i++([32]:List UInt8)).length j.length) <|ck (CN ((i++([32]:List UInt8))++j).length ([10]:List UInt8).length) <|some (((i++([32]:List UInt8))++j)++([10]:List UInt8))
def Eh (j:AW):Option Bool :=(Dk j.Day 0 100000).bind fun i=>ck (!i||(By j.What).isSome) <|ck (!(i&&((By j.What).getD a'))||(Dk j.Value (-1000000) 1000000).isSome) <|some ((i&&((By j.What).getD a'))&&((Dk j.Value (-1000000) 1000000).getD a'))
def FP (line:List UInt8):Option (AW×Int×Bool) :=(WI line ([32]:List UInt8)).bind fun i=>if (!((i.length:Int)==4)) then b8 ((AW.mk 0 [] 0),0,be) else ck (AU 0 i.length) <|(La (i.getD 0 a')).bind fun o=>ck (AU 2 i.length) <|(La (i.getD 2 a')).bind fun j=>ck (AU 3 i.length) <|(La (i.getD 3 a')).bind fun p=>ck (AU 1 i.length) <|ck (!((o.2&&j.2)&&p.2)||(Eh (AW.mk o.1 (i.getD 1 a') j.1)).isSome) <|some ((AW.mk o.1 (i.getD 1 a') j.1),p.1,(((o.2&&j.2)&&p.2)&&((Eh (AW.mk o.1 (i.getD 1 a') j.1)).getD a')))
def Fi (log:List UInt8):((List AW)×Int×Int×Int)->Option (((List AW)×Int×Int×Int)⊕((List AW)×Int×Int))
 | (entries,j,last,p)=>ck (If j (log.length:Int) log.length) <|(cM (cut log j (log.length:Int)) ([10]:List UInt8)).bind fun o=>(FP o.1).bind fun i=>ck (!(!(((!o.2.2)||(!i.2.2))||(b5 (i.1.Day<p))))||(IH last i.1).isSome) <|if ((((!o.2.2)||(!i.2.2))||(b5 (i.1.Day<p)))||(!(i.2.1==((IH last i.1).getD a')))) then b8 (.inr (entries,j,last)) else ck (DH (entries.length+([i.1]:List AW).length) 32) <|some (.inl ((entries++([i.1]:List AW)),(bb.wrap (j+(bb.wrap ((o.1.length:Int)+1)))),i.2.1,i.1.Day))
def Hn (log:List UInt8):Option ((List AW)×Int×Int) :=(AE (Fi log) (([]:List AW),0,0,0)).bind fun i=>b8 (i.1,i.2.1,i.2.2)
def FG (log:List UInt8):Option ((List AW)×Int×Int) :=if (b5 (4000<(log.length:Int))) then b8 (([]:List AW),0,5) else (Hn log).bind fun i=>if (b5 (i.2.1<(log.length:Int))) then b8 (([]:List AW),0,8) else b8 (i.1,i.2.2,0)
def FI(log:List UInt8)(o:AW):Option ((List UInt8)×Int) :=(FG log).bind fun i=>if (!(i.2.2==0)) then b8 (([]:List UInt8),i.2.2) else (Eh o).bind fun C=>if (!C) then b8 (([]:List UInt8),7) else ck (!(b5 (0<(i.1.length:Int)))||AU (bb.wrap ((i.1.length:Int)-1)) i.1.length) <|if ((b5 (0<(i.1.length:Int)))&&(b5 (o.Day<((i.1.getD (bb.wrap ((i.1.length:Int)-1)).toNat a').Day)))) then b8 (([]:List UInt8),6) else (IH i.2.1 o).bind fun p=>(LC o p).bind fun j=>ck (CN log.length j.length) <|if (b5 (4000<((log++j).length:Int))) then b8 (([]:List UInt8),5) else b8 ((log++j),0)
def FT (log:List UInt8):Option ((List AW)×Int) :=(FG log).bind fun i=>b8 (i.1,i.2.2)
def IZ(j:AW)(i:List UInt8):Option Bool :=some (j.What==i)
def Be(c:List UInt8)(t9:List AW)(t10:Int):((List Int)×Int)->Option (((List Int)×Int)⊕(List Int))
 | (out,i)=>if (b5 (i<t10)) then ck (AU i t9.length) <|(IZ (t9.getD i.toNat a') c).bind fun j=>if j then ck (DH (out.length+([(t9.getD i.toNat a').Value]:List Int).length) 8) <|some (.inl ((out++([(t9.getD i.toNat a').Value]:List Int)),(bb.wrap (i+1)))) else b8 (.inl (out,(bb.wrap (i+1)))) else b8 (.inr out)
def Cg(i:List AW)(j:List UInt8):Option (List Int) :=(AE (Be j i (i.length:Int)) (([]:List Int),0)).bind fun o=>b8 o
def FH(log what:List UInt8):Option ((List Int)×Int) :=(FT log).bind fun i=>if (!(i.2==0)) then b8 (([]:List Int),i.2) else (By what).bind fun o=>if (!o) then b8 (([]:List Int),2) else (Cg i.1 what).bind fun j=>b8 (j,0)
def FQ (i:List Star):Option Int :=some (i.length:Int)
def EB (i:List AA):Option Int :=some (i.length:Int)
def EY (d:Bp):Option (List UInt8) :=(FQ d.Stars).bind fun p=>(BJ p).bind fun i=>ck (CN i.length ([32,115,116,97,114,115,32]:List UInt8).length) <|(EB d.Estimates).bind fun o=>(BJ o).bind fun j=>ck (CN (i++([32,115,116,97,114,115,32]:List UInt8)).length j.length) <|ck (CN ((i++([32,115,116,97,114,115,32]:List UInt8))++j).length ([32,101,115,116,105,109,97,116,101,115]:List UInt8).length) <|some (((i++([32,115,116,97,114,115,32]:List UInt8))++j)++([32,101,115,116,105,109,97,116,101,115]:List UInt8))
def Ep(line:List UInt8)(i:Int):Option ((List (List UInt8))×Int) :=some (([line]:List (List UInt8)),i)
def Hl(j:List Int)(o:Int):(Int×Int)->Option ((Int×Int)⊕Int)
 | (n,i)=>if (b5 (i<o)) then ck (AU i j.length) <|some (.inl ((bb.wrap (n+(j.getD i.toNat a'))),(bb.wrap (i+1)))) else b8 (.inr n)
def JI (i:List Int):Option Int :=(AE (Hl i (i.length:Int)) (0,0)).bind fun j=>b8 j
def Ct(d:Bp)(c:EM):Option ((List (List UInt8))×Int×Bp) :=ck (AU 0 c.words_.length) <|if ((c.words_.getD 0 a')==([115,116,97,114]:List UInt8)) then ck (AU 1 c.words_.length) <|ck (AU 2 c.numbers_.length) <|ck (AU 3 c.numbers_.length) <|ck (AU 4 c.numbers_.length) <|ck (AU 5 c.numbers_.length) <|(Iz d.Stars (Star.mk (c.words_.getD 1 a') (c.numbers_.getD 2 a') (c.numbers_.getD 3 a') (c.numbers_.getD 4 a') (c.numbers_.getD 5 a'))).bind fun J=>(EY (Bp.mk J.1 d.Estimates d.Log)).bind fun ac=>(Ep ac J.2).bind fun I=>b8 (I.1,I.2,(Bp.mk J.1 d.Estimates d.Log)) else if ((c.words_.getD 0 a')==([101,115,116]:List UInt8)) then ck (AU 2 c.words_.length) <|(Fz d.Stars (c.words_.getD 2 a')).bind fun ab=>if (!ab) then b8 (([]:List (List UInt8)),3,d) else ck (AU 1 c.numbers_.length) <|ck (AU 3 c.words_.length) <|ck (AU 4 c.numbers_.length) <|(Dm d.Estimates (AA.mk (c.numbers_.getD 1 a') (c.words_.getD 2 a') (c.words_.getD 3 a') (c.numbers_.getD 4 a') c.fainter_)).bind fun j=>(EY (Bp.mk d.Stars j.1 d.Log)).bind fun aa=>(Ep aa j.2).bind fun C=>b8 (C.1,C.2,(Bp.mk d.Stars j.1 d.Log)) else ck (AU 1 c.numbers_.length) <|ck (AU 2 c.words_.length) <|ck (AU 3 c.numbers_.length) <|(FI d.Log (AW.mk (c.numbers_.getD 1 a') (c.words_.getD 2 a') (c.numbers_.getD 3 a'))).bind fun i=>if (!(i.2==0)) then b8 (([]:List (List UInt8)),i.2,(Bp.mk d.Stars d.Estimates i.1)) else (FH i.1 (c.words_.getD 2 a')).bind fun p=>(JI p.1).bind fun U=>(BJ U).bind fun R=>(Ep R p.2).bind fun o=>b8 (o.1,o.2,(Bp.mk d.Stars d.Estimates i.1))
def JM(i:AA)(j:List UInt8):Option Bool :=some ((i.Star==j)&&(!i.Fainter))
def Az(c:List UInt8)(t9:List AA)(t10:Int):((List AA)×Int)->Option (((List AA)×Int)⊕(List AA))
 | (out,i)=>if (b5 (i<t10)) then ck (AU i t9.length) <|(JM (t9.getD i.toNat a') c).bind fun j=>if j then ck (DH (out.length+([(t9.getD i.toNat a')]:List AA).length) 56) <|some (.inl ((out++([(t9.getD i.toNat a')]:List AA)),(bb.wrap (i+1)))) else b8 (.inl (out,(bb.wrap (i+1)))) else b8 (.inr out)
def BI(j:List AA)(i:List UInt8):Option (List AA) :=(AE (Az i j (j.length:Int)) (([]:List AA),0)).bind fun o=>b8 o
def IY (i:List Int):Option Int :=some (i.length:Int)
def EP(a b:Int):Option Int :=ck (nz b) <|if (b5 ((a.tmod b)<0)) then b8 (bb.wrap ((bb.wrap (a.tdiv b))-1)) else b8 (bb.wrap (a.tdiv b))
def LY(o j:Int):Option Int :=(EP o j).bind fun i=>if (b5 ((bb.wrap (j-(bb.wrap (o-(bb.wrap (i*j))))))<=(bb.wrap (o-(bb.wrap (i*j)))))) then b8 (bb.wrap (i+1)) else b8 i
def NJ (i:List Int):Option Int :=(JI i).bind fun p=>(IY i).bind fun o=>(LY p o).bind fun j=>b8 j
def Fk(j:List AA)(out:List AJ)(p:Int):(Int×(List Int))->Option ((Int×(List Int))⊕(Int×(List Int)))
 | (i,o)=>ck (!(b5 (i<(j.length:Int)))||AU i j.length) <|if ((b5 (i<(j.length:Int)))&&(((j.getD i.toNat a').Time)==p)) then ck (AU i j.length) <|ck (DH (o.length+([(j.getD i.toNat a').Mag]:List Int).length) 8) <|some (.inl ((bb.wrap (i+1)),(o++([(j.getD i.toNat a').Mag]:List Int)))) else b8 (.inr (i,o))
def Gy (j:List AA):((List AJ)×Int)->Option (((List AJ)×Int)⊕(List AJ))
 | (out,i)=>if (b5 (i<(j.length:Int))) then ck (AU i j.length) <|(AE (Fk j out ((j.getD i.toNat a').Time)) (i,([]:List Int))).bind fun p=>(NJ p.2).bind fun o=>ck (DH (out.length+([(AJ.mk ((j.getD i.toNat a').Time) o)]:List AJ).length) 16) <|some (.inl ((out++([(AJ.mk ((j.getD i.toNat a').Time) o)]:List AJ)),p.1)) else b8 (.inr out)
def Iy(j:List AA)(i:List UInt8):Option ((List AJ)×Int) :=(BZ j).bind fun I=>if (!I) then b8 (([]:List AJ),1) else (By i).bind fun C=>if (!C) then b8 (([]:List AJ),2) else (BI j i).bind fun p=>(AE (Gy p) (([]:List AJ),0)).bind fun o=>b8 (o,0)
def Ce(i o:List AJ)(t9:Int):Int->Option (Int⊕(Unit⊕Bool))
 | t10=>if (b5 (t10<t9)) then ck (AU t10 o.length) <|(ED ((o.getD t10.toNat a').Time)).bind fun j=>ck (!(!(!j))||(BT ((o.getD t10.toNat a').Mag)).isSome) <|ck (!((!((!j)||(!((BT ((o.getD t10.toNat a').Mag)).getD a'))))&&(b5 (0<t10)))||AU (bb.wrap (t10-1)) i.length) <|if (((!j)||(!((BT ((o.getD t10.toNat a').Mag)).getD a')))||((b5 (0<t10))&&(b5 (((o.getD t10.toNat a').Time)<=((i.getD (bb.wrap (t10-1)).toNat a').Time))))) then b8 (.inr (.inr be)) else b8 (.inl (bb.wrap (t10+1))) else b8 (.inr (.inl ()))
def EE (i:List AJ):Option Bool :=if (b5 (100<(i.length:Int))) then b8 be else (AE (Ce i i (i.length:Int)) 0).bind fun o=>match o with
  | .inl p=>b8 b9
  | .inr j=>b8 j
def Et (x:CB):Option Bool :=(Dk x.From 1 1000000).bind fun i=>ck (!(!(!i))||(Dk x.To x.From 1000000).isSome) <|ck (!(!((!i)||(!((Dk x.To x.From 1000000).getD a'))))||(Dk x.Step 1 1000000).isSome) <|if (((!i)||(!((Dk x.To x.From 1000000).getD a')))||(!((Dk x.Step 1 1000000).getD a'))) then b8 be else ck (nz x.Step) <|some (b5 ((bb.wrap ((bb.wrap ((bb.wrap (x.To-x.From)).tdiv x.Step))+1))<=500))
def JJ(i:List AJ)(x:CB)(j:Int):Option Int :=(EE i).bind fun o=>ck (!(!(!o))||(Et x).isSome) <|if ((!o)||(!((Et x).getD a'))) then b8 1 else if (b5 (40<(i.length:Int))) then b8 5 else if (b5 ((i.length:Int)<j)) then b8 3 else b8 0
def Dl (x:CB):((List Int)×Int)->Option (((List Int)×Int)⊕(List Int))
 | (out,p)=>if (b5 (p<=x.To)) then ck (DH (out.length+([p]:List Int).length) 8) <|some (.inl ((out++([p]:List Int)),(bb.wrap (p+x.Step)))) else b8 (.inr out)
def Ef (x:CB):Option (List Int) :=(AE (Dl x) (([]:List Int),x.From)).bind fun i=>b8 i
def JK (t0:Int):Option Bool :=some b9
def BW (j:Int):((List Int)×Int)->Option (((List Int)×Int)⊕(List Int))
 | (out,t9)=>if (b5 (t9<j)) then (JK t9).bind fun i=>if i then ck (DH (out.length+([t9]:List Int).length) 8) <|some (.inl ((out++([t9]:List Int)),(bb.wrap (t9+1)))) else b8 (.inl (out,(bb.wrap (t9+1)))) else b8 (.inr out)
def Bf (n:Int):Option (List Int) :=(AE (BW n) (([]:List Int),0)).bind fun i=>b8 i
def Ni(a b:Int):Option Int :=(EP a b).bind fun i=>b8 (bb.wrap (a-(bb.wrap (i*b))))
def DX(o:AF)(i:Int):Option Int :=(Ni (bb.wrap (i-o.Epoch)) o.Period).bind fun j=>b8 j
def DS(i:Int)(p:AF)(o:List AJ):Option Int :=ck (AU i o.length) <|(DX p ((o.getD i.toNat a').Time)).bind fun j=>b8 j
def BL(a b:Int)(j:AF)(i:List AJ):Option Int :=(DS a j i).bind fun p=>(DS b j i).bind fun o=>if (!(p==o)) then if (b5 (p<o)) then b8 (-1) else b8 1 else b8 0
def Bq(a b:Int)(c:AF)(c2:List AJ)(i:Int):((List Int)×Int)->Option (((List Int)×Int)⊕(List Int))
 | (data,j)=>ck (!(b5 (a<j))||AU j data.length) <|ck (!(b5 (a<j))||AU (bb.wrap (j-1)) data.length) <|ck (!(b5 (a<j))||(BL (data.getD j.toNat a') (data.getD (bb.wrap (j-1)).toNat a') c c2).isSome) <|if ((b5 (a<j))&&(b5 (((BL (data.getD j.toNat a') (data.getD (bb.wrap (j-1)).toNat a') c c2).getD a')<0))) then ck (AU (bb.wrap (j-1)) data.length) <|ck (AU j data.length) <|some (.inl (((data.set j.toNat (data.getD (bb.wrap (j-1)).toNat a')).set ((bb.wrap (j-1)).toNat) (data.getD j.toNat a')),(bb.wrap (j-1)))) else b8 (.inr data)
def Br(a b:Int)(c:AF)(c2:List AJ):((List Int)×Int)->Option (((List Int)×Int)⊕(List Int))
 | (data,i)=>if (b5 (i<b)) then (AE (Bq a b c c2 i) (data,i)).bind fun j=>b8 (.inl (j,(bb.wrap (i+1)))) else b8 (.inr data)
def BC(data:List Int)(a b:Int)(j:AF)(i:List AJ):Option (List Int) :=(AE (Br a b j i) (data,(bb.wrap (a+1)))).bind fun o=>ck (o.length==data.length) <|some o
def CL(a b n:Int):((List Int)×Int)->Option (((List Int)×Int)⊕(List Int))
 | (data,i)=>if (b5 (i<n)) then ck (AU (bb.wrap (b+i)) data.length) <|ck (AU (bb.wrap (a+i)) data.length) <|some (.inl (((data.set ((bb.wrap (a+i)).toNat) (data.getD (bb.wrap (b+i)).toNat a')).set ((bb.wrap (b+i)).toNat) (data.getD (bb.wrap (a+i)).toNat a')),(bb.wrap (i+1)))) else b8 (.inr data)
def Av(data:List Int)(a b n:Int)(j:AF)(i:List AJ):Option (List Int) :=(AE (CL a b n) (data,0)).bind fun o=>ck (o.length==data.length) <|some o
def Cd(m:Int)(c:AF)(c2:List AJ):((List Int)×Int×Int)->Option (((List Int)×Int×Int)⊕((List Int)×Int))
 | (data,i,j)=>if (!(i==j)) then if (b5 (j<i)) then (Av data (bb.wrap (m-i)) m j c c2).bind fun p=>b8 (.inl (p,(bb.wrap (i-j)),j)) else (Av data (bb.wrap (m-i)) (bb.wrap ((bb.wrap (m+j))-i)) i c c2).bind fun o=>b8 (.inl (o,i,(bb.wrap (j-i)))) else b8 (.inr (data,i))
def BG(data:List Int)(a m b:Int)(j:AF)(i:List AJ):Option (List Int) :=(AE (Cd m j i) (data,(bb.wrap (m-a)),(bb.wrap (b-m)))).bind fun o=>(Av o.1 (bb.wrap (m-o.2)) m o.2 j i).bind fun p=>ck (p.length==data.length) <|some p
def CT(data:List Int)(a:Int)(c:AF)(c2:List AJ):(Int×Int)->Option ((Int×Int)⊕Int)
 | (i,j)=>if (b5 (i<j)) then ck (SL 1) <|ck (AU (hF (i+j)) data.length) <|ck (AU a data.length) <|(BL (data.getD (hF (i+j)).toNat a') (data.getD a.toNat a') c c2).bind fun o=>if (b5 (o<0)) then b8 (.inl ((bb.wrap ((hF (i+j))+1)),j)) else b8 (.inl (i,(hF (i+j)))) else b8 (.inr i)
def CS (i:Int):((List Int)×Int)->Option (((List Int)×Int)⊕(List Int))
 | (data,k)=>if (b5 (k<(bb.wrap (i-1)))) then ck (AU (bb.wrap (k+1)) data.length) <|ck (AU k data.length) <|some (.inl (((data.set k.toNat (data.getD (bb.wrap (k+1)).toNat a')).set ((bb.wrap (k+1)).toNat) (data.getD k.toNat a')),(bb.wrap (k+1)))) else b8 (.inr data)
def CR(data:List Int)(m:Int)(c:AF)(c2:List AJ):(Int×Int)->Option ((Int×Int)⊕Int)
 | (i,j)=>if (b5 (i<j)) then ck (SL 1) <|ck (AU m data.length) <|ck (AU (hF (i+j)) data.length) <|(BL (data.getD m.toNat a') (data.getD (hF (i+j)).toNat a') c c2).bind fun o=>if (!(b5 (o<0))) then b8 (.inl ((bb.wrap ((hF (i+j))+1)),j)) else b8 (.inl (i,(hF (i+j)))) else b8 (.inr i)
def CQ (i:Int):((List Int)×Int)->Option (((List Int)×Int)⊕(List Int))
 | (data,k)=>if (b5 (i<k)) then ck (AU (bb.wrap (k-1)) data.length) <|ck (AU k data.length) <|some (.inl (((data.set k.toNat (data.getD (bb.wrap (k-1)).toNat a')).set ((bb.wrap (k-1)).toNat) (data.getD k.toNat a')),(bb.wrap (k-1)))) else b8 (.inr data)
def CP(data:List Int)(a m b:Int)(c:AF)(c2:List AJ)(j n p:Int):(Int×Int)->Option ((Int×Int)⊕Int)
 | (start,r)=>if (b5 (start<r)) then ck (SL 1) <|ck (AU (bb.wrap (p-(hF (start+r)))) data.length) <|ck (AU (hF (start+r)) data.length) <|(BL (data.getD (bb.wrap (p-(hF (start+r)))).toNat a') (data.getD (hF (start+r)).toNat a') c c2).bind fun i=>if (!(b5 (i<0))) then b8 (.inl ((bb.wrap ((hF (start+r))+1)),r)) else b8 (.inl (start,(hF (start+r)))) else b8 (.inr start)
def CO(data:List Int)(a m b:Int)(c:AF)(c2:List AJ)(j n p:Int):(Int×Int)->Option ((Int×Int)⊕Int)
 | (start,r)=>if (b5 (start<r)) then ck (SL 1) <|ck (AU (bb.wrap (p-(hF (start+r)))) data.length) <|ck (AU (hF (start+r)) data.length) <|(BL (data.getD (bb.wrap (p-(hF (start+r)))).toNat a') (data.getD (hF (start+r)).toNat a') c c2).bind fun i=>if (!(b5 (i<0))) then b8 (.inl ((bb.wrap ((hF (start+r))+1)),r)) else b8 (.inl (start,(hF (start+r)))) else b8 (.inr start)
def AH:Nat->(List Int)->Int->Int->Int->AF->(List AJ)->Option (List Int)
 | 0,_,_,_,_,_,_=>c6
 | J+1,data,a,m,b,j,i=>if ((bb.wrap (m-a))==1) then (AE (CT data a j i) (m,b)).bind fun a2=>(AE (CS a2) (data,a)).bind fun a0=>ck (a0.length==data.length) <|some a0 else if ((bb.wrap (b-m))==1) then (AE (CR data m j i) (a,m)).bind fun a1=>(AE (CQ a1) (data,m)).bind fun ay=>ck (ay.length==data.length) <|some ay else ck (SL 1) <|if (b5 ((hF (a+b))<m)) then (AE (CP data a m b j i (hF (a+b)) (bb.wrap ((hF (a+b))+m)) (bb.wrap ((bb.wrap ((hF (a+b))+m))-1))) ((bb.wrap ((bb.wrap ((hF (a+b))+m))-b)),(hF (a+b)))).bind fun p=>if ((b5 (p<m))&&(b5 (m<(bb.wrap ((bb.wrap ((hF (a+b))+m))-p))))) then (BG data p m (bb.wrap ((bb.wrap ((hF (a+b))+m))-p)) j i).bind fun I=>if ((b5 (a<p))&&(b5 (p<(hF (a+b))))) then (AH J I a p (hF (a+b)) j i).bind fun ab=>if ((b5 ((hF (a+b))<(bb.wrap ((bb.wrap ((hF (a+b))+m))-p))))&&(b5 ((bb.wrap ((bb.wrap ((hF (a+b))+m))-p))<b))) then (AH J ab (hF (a+b)) (bb.wrap ((bb.wrap ((hF (a+b))+m))-p)) b j i).bind fun ax=>ck (ax.length==data.length) <|some ax else ck (ab.length==data.length) <|some ab else if ((b5 ((hF (a+b))<(bb.wrap ((bb.wrap ((hF (a+b))+m))-p))))&&(b5 ((bb.wrap ((bb.wrap ((hF (a+b))+m))-p))<b))) then (AH J I (hF (a+b)) (bb.wrap ((bb.wrap ((hF (a+b))+m))-p)) b j i).bind fun av=>ck (av.length==data.length) <|some av else ck (I.length==data.length) <|some I else if ((b5 (a<p))&&(b5 (p<(hF (a+b))))) then (AH J data a p (hF (a+b)) j i).bind fun aa=>if ((b5 ((hF (a+b))<(bb.wrap ((bb.wrap ((hF (a+b))+m))-p))))&&(b5 ((bb.wrap ((bb.wrap ((hF (a+b))+m))-p))<b))) then (AH J aa (hF (a+b)) (bb.wrap ((bb.wrap ((hF (a+b))+m))-p)) b j i).bind fun au=>ck (au.length==data.length) <|some au else ck (aa.length==data.length) <|some aa else if ((b5 ((hF (a+b))<(bb.wrap ((bb.wrap ((hF (a+b))+m))-p))))&&(b5 ((bb.wrap ((bb.wrap ((hF (a+b))+m))-p))<b))) then (AH J data (hF (a+b)) (bb.wrap ((bb.wrap ((hF (a+b))+m))-p)) b j i).bind fun ao=>ck (ao.length==data.length) <|some ao else b8 data else (AE (CO data a m b j i (hF (a+b)) (bb.wrap ((hF (a+b))+m)) (bb.wrap ((bb.wrap ((hF (a+b))+m))-1))) (a,m)).bind fun o=>if ((b5 (o<m))&&(b5 (m<(bb.wrap ((bb.wrap ((hF (a+b))+m))-o))))) then (BG data o m (bb.wrap ((bb.wrap ((hF (a+b))+m))-o)) j i).bind fun C=>if ((b5 (a<o))&&(b5 (o<(hF (a+b))))) then (AH J C a o (hF (a+b)) j i).bind fun U=>if ((b5 ((hF (a+b))<(bb.wrap ((bb.wrap ((hF (a+b))+m))-o))))&&(b5 ((bb.wrap ((bb.wrap ((hF (a+b))+m))-o))<b))) then (AH J U (hF (a+b)) (bb.wrap ((bb.wrap ((hF (a+b))+m))-o)) b j i).bind fun aj=>ck (aj.length==data.length) <|some aj else ck (U.length==data.length) <|some U else if ((b5 ((hF (a+b))<(bb.wrap ((bb.wrap ((hF (a+b))+m))-o))))&&(b5 ((bb.wrap ((bb.wrap ((hF (a+b))+m))-o))<b))) then (AH J C (hF (a+b)) (bb.wrap ((bb.wrap ((hF (a+b))+m))-o)) b j i).bind fun ae=>ck (ae.length==data.length) <|some ae else ck (C.length==data.length) <|some C else if ((b5 (a<o))&&(b5 (o<(hF (a+b))))) then (AH J data a o (hF (a+b)) j i).bind fun R=>if ((b5 ((hF (a+b))<(bb.wrap ((bb.wrap ((hF (a+b))+m))-o))))&&(b5 ((bb.wrap ((bb.wrap ((hF (a+b))+m))-o))<b))) then (AH J R (hF (a+b)) (bb.wrap ((bb.wrap ((hF (a+b))+m))-o)) b j i).bind fun ad=>ck (ad.length==data.length) <|some ad else ck (R.length==data.length) <|some R else if ((b5 ((hF (a+b))<(bb.wrap ((bb.wrap ((hF (a+b))+m))-o))))&&(b5 ((bb.wrap ((bb.wrap ((hF (a+b))+m))-o))<b))) then (AH J data (hF (a+b)) (bb.wrap ((bb.wrap ((hF (a+b))+m))-o)) b j i).bind fun ac=>ck (ac.length==data.length) <|some ac else b8 data
def Ay(data:List Int)(a m b:Int)(j:AF)(i:List AJ):Option (List Int):=AH 64 data a m b j i
def Cc(n:Int)(c:AF)(c2:List AJ)(i:Int):((List Int)×Int×Int)->Option (((List Int)×Int×Int)⊕((List Int)×Int))
 | (data,a,b)=>if (b5 (b<=n)) then (BC data a b c c2).bind fun j=>b8 (.inl (j,b,(bb.wrap (b+i)))) else b8 (.inr (data,a))
def BP(n:Int)(c:AF)(c2:List AJ)(i:Int):((List Int)×Int×Int)->Option (((List Int)×Int×Int)⊕((List Int)×Int))
 | (data,a,b)=>if (b5 (b<=n)) then (Ay data a (bb.wrap (a+i)) b c c2).bind fun j=>b8 (.inl (j,b,(bb.wrap (b+(bb.wrap (2*i)))))) else b8 (.inr (data,a))
def BQ(n:Int)(c:AF)(c2:List AJ):((List Int)×Int)->Option (((List Int)×Int)⊕(List Int))
 | (data,i)=>if (b5 (i<n)) then (AE (BP n c c2 i) (data,0,(bb.wrap (2*i)))).bind fun j=>if (b5 ((bb.wrap (j.2+i))<n)) then (Ay j.1 j.2 (bb.wrap (j.2+i)) n c c2).bind fun o=>b8 (.inl (o,(bb.wrap (i*2)))) else b8 (.inl (j.1,(bb.wrap (i*2)))) else b8 (.inr data)
def BF(data:List Int)(n:Int)(j:AF)(i:List AJ):Option (List Int) :=(AE (Cc n j i 20) (data,0,20)).bind fun p=>(BC p.1 p.2 n j i).bind fun C=>(AE (BQ n j i) (C,20)).bind fun o=>ck (o.length==data.length) <|some o
def BD(x:List Int)(j:AF)(i:List AJ):Option (List Int) :=(BF x (x.length:Int) j i).bind fun o=>ck (o.length==x.length) <|some o
def Ch(n:Int)(j:AF)(i:List AJ):Option (List Int) :=(Bf n).bind fun p=>(BD p j i).bind fun o=>b8 o
def GZ(o:AF)(i:List AJ):Option (List Int) :=(Ch (i.length:Int) o i).bind fun j=>b8 j
def Bw(j:List AJ)(i:List Int)(I:Int):(Int×Int)->Option ((Int×Int)⊕Int)
 | (p,o)=>if (b5 (o<I)) then ck (AU o i.length) <|ck (nz (i.length:Int)) <|ck (AU ((bb.wrap (o+1)).tmod (i.length:Int)) i.length) <|ck (AU (i.getD o.toNat a') j.length) <|ck (AU (i.getD ((bb.wrap (o+1)).tmod (i.length:Int)).toNat a') j.length) <|(EC (bb.wrap (((j.getD (i.getD o.toNat a').toNat a').Mag)-((j.getD (i.getD ((bb.wrap (o+1)).tmod (i.length:Int)).toNat a').toNat a').Mag)))).bind fun C=>b8 (.inl ((bb.wrap (p+C)),(bb.wrap (o+1)))) else b8 (.inr p)
def DR(i:List AJ)(j:Int):Option Int :=(GZ (AF.mk 0 j) i).bind fun o=>(AE (Bw i o (o.length:Int)) (0,0)).bind fun p=>b8 p
def Dy(j:List AJ)(t9:List Int)(t10:Int):((List Int)×Int)->Option (((List Int)×Int)⊕(List Int))
 | (out,i)=>if (b5 (i<t10)) then ck (AU i t9.length) <|(DR j (t9.getD i.toNat a')).bind fun o=>ck (DH (out.length+([o]:List Int).length) 8) <|some (.inl ((out++([o]:List Int)),(bb.wrap (i+1)))) else b8 (.inr out)
def Er(j:List AJ)(i:List Int):Option (List Int) :=(AE (Dy j i (i.length:Int)) (([]:List Int),0)).bind fun o=>b8 o
def Cf(s_:List Int)(v j:Int):Int->Option (Int⊕(Unit⊕Int))
 | i=>if (b5 (i<j)) then ck (AU i s_.length) <|if (v==(s_.getD i.toNat a')) then b8 (.inr (.inr i)) else b8 (.inl (bb.wrap (i+1))) else b8 (.inr (.inl ()))
def DJ(s_:List Int)(v:Int):Option Int :=(AE (Cf s_ v (s_.length:Int)) 0).bind fun j=>match j with
 | .inl o=>b8 (-1)
 | .inr i=>b8 i
def KZ(j:List AJ)(i:List Int):Option Int :=(Er j i).bind fun p=>(eH p).bind fun C=>(DJ p C).bind fun o=>ck (AU o i.length) <|some (i.getD o.toNat a')
def Fl(i:List AJ)(x:CB):Option (Int×Int) :=(JJ i x 3).bind fun j=>if (!(j==0)) then b8 (0,j) else (Ef x).bind fun p=>(KZ i p).bind fun o=>b8 (o,0)
def IW(i:List AJ)(j:Int):((List Int)×Int)->Option (((List Int)×Int)⊕(List Int))
 | (out,t9)=>if (b5 (t9<j)) then ck (AU t9 i.length) <|ck (DH (out.length+([(i.getD t9.toNat a').Mag]:List Int).length) 8) <|some (.inl ((out++([(i.getD t9.toNat a').Mag]:List Int)),(bb.wrap (t9+1)))) else b8 (.inr out)
def LB (i:List AJ):Option (List Int) :=(AE (IW i (i.length:Int)) (([]:List Int),0)).bind fun j=>b8 j
def Ev (i:List AJ):Option (Int×Int) :=(EE i).bind fun C=>if (!C) then b8 (0,1) else if ((i.length:Int)==0) then b8 (0,3) else (LB i).bind fun j=>(qd j).bind fun p=>(eH j).bind fun o=>b8 ((bb.wrap (p-o)),0)
def Fr (j:AF):Option Bool :=(ED j.Epoch).bind fun i=>ck (!i||(Dk j.Period 1 1000000).isSome) <|some (i&&((Dk j.Period 1 1000000).getD a'))
def Gb(p:AF)(i:List AJ):Option ((List Int)×Int) :=(Fr p).bind fun j=>ck (!(!(!j))||(EE i).isSome) <|if ((!j)||(!((EE i).getD a'))) then b8 (([]:List Int),1) else (GZ p i).bind fun o=>b8 (o,0)
def GY(o:List Int)(p:Int):((List (List UInt8))×Int)->Option (((List (List UInt8))×Int)⊕(List (List UInt8)))
 | (i,t9)=>if (b5 (t9<p)) then ck (AU t9 o.length) <|(BJ (o.getD t9.toNat a')).bind fun j=>ck (DH (i.length+([j]:List (List UInt8)).length) 16) <|some (.inl ((i++([j]:List (List UInt8))),(bb.wrap (t9+1)))) else b8 (.inr i)
def LD (i:List Int):Option (List UInt8) :=(AE (GY i (i.length:Int)) (([]:List (List UInt8)),0)).bind fun o=>(Wx o ([32]:List UInt8)).bind fun j=>b8 j
def Hp (i:List (List UInt8)):Option Int :=some (i.length:Int)
def Ho (i:List (List UInt8)):Option (List (List UInt8)) :=(Hp i).bind fun o=>(BJ o).bind fun j=>ck (CN ([111,107,32]:List UInt8).length j.length) <|ck (DH (i.length+([(([111,107,32]:List UInt8)++j)]:List (List UInt8)).length) 16) <|some (i++([(([111,107,32]:List UInt8)++j)]:List (List UInt8)))
def DY(C:List AJ)(I:Int):((List (List UInt8))×Int)->Option (((List (List UInt8))×Int)⊕(List (List UInt8)))
 | (j,i)=>if (b5 (i<I)) then ck (AU i C.length) <|(BJ ((C.getD i.toNat a').Time)).bind fun o=>ck (CN o.length ([32]:List UInt8).length) <|(DT ((C.getD i.toNat a').Mag)).bind fun p=>ck (CN (o++([32]:List UInt8)).length p.length) <|ck (DH (j.length+([((o++([32]:List UInt8))++p)]:List (List UInt8)).length) 16) <|some (.inl ((j++([((o++([32]:List UInt8))++p)]:List (List UInt8))),(bb.wrap (i+1)))) else b8 (.inr j)
def CD(d:Bp)(c:EM):Option ((List (List UInt8))×Int) :=ck (AU 1 c.words_.length) <|(Iy d.Estimates (c.words_.getD 1 a')).bind fun i=>if (!(i.2==0)) then b8 (([]:List (List UInt8)),i.2) else ck (AU 0 c.words_.length) <|if ((c.words_.getD 0 a')==([97,109,112]:List UInt8)) then (Ev i.1).bind fun R=>(BJ R.1).bind fun ad=>(Ep ad R.2).bind fun J=>b8 (J.1,J.2) else if ((c.words_.getD 0 a')==([98,101,115,116]:List UInt8)) then ck (AU 2 c.numbers_.length) <|ck (AU 3 c.numbers_.length) <|ck (AU 4 c.numbers_.length) <|(Fl i.1 (CB.mk (c.numbers_.getD 2 a') (c.numbers_.getD 3 a') (c.numbers_.getD 4 a'))).bind fun I=>(BJ I.1).bind fun ac=>(Ep ac I.2).bind fun C=>b8 (C.1,C.2) else if ((c.words_.getD 0 a')==([102,111,108,100]:List UInt8)) then ck (AU 2 c.numbers_.length) <|(Gb (AF.mk 0 (c.numbers_.getD 2 a')) i.1).bind fun j=>if ((j.1.length:Int)==0) then (Ep ([45]:List UInt8) j.2).bind fun p=>b8 (p.1,p.2) else (LD j.1).bind fun ab=>(Ep ab j.2).bind fun o=>b8 (o.1,o.2) else (AE (DY i.1 (i.1.length:Int)) (([]:List (List UInt8)),0)).bind fun aa=>(Ho aa).bind fun U=>b8 (U,0)
def Eu (i:AA):Option (List UInt8) :=(DT i.Mag).bind fun j=>if i.Fainter then ck (CN ([60]:List UInt8).length j.length) <|(BJ i.Time).bind fun I=>(Wx ([I,i.Star,i.Observer,(([60]:List UInt8)++j)]:List (List UInt8)) ([32]:List UInt8)).bind fun C=>b8 C else (BJ i.Time).bind fun p=>(Wx ([p,i.Star,i.Observer,j]:List (List UInt8)) ([32]:List UInt8)).bind fun o=>b8 o
def Ga (i:List (List Int)):Option Int :=some (i.length:Int)
def DZ(d:Bp)(I:Int)(p:List AW)(C:Int):((List (List UInt8))×Int)->Option (((List (List UInt8))×Int)⊕(List (List UInt8)))
 | (i,j)=>if (b5 (j<C)) then ck (AU j p.length) <|(EI (p.getD j.toNat a')).bind fun o=>ck (DH (i.length+([o]:List (List UInt8)).length) 16) <|some (.inl ((i++([o]:List (List UInt8))),(bb.wrap (j+1)))) else b8 (.inr i)
def Ai(d:Bp)(c:EM):Option ((List (List UInt8))×Int×Bp) :=ck (AU 0 c.words_.length) <|if ((c.words_.getD 0 a')==([115,116,97,114]:List UInt8)) then (Ct d c).bind fun ab=>b8 (ab.1,ab.2.1,ab.2.2) else if ((c.words_.getD 0 a')==([101,115,116]:List UInt8)) then (Ct d c).bind fun aa=>b8 (aa.1,aa.2.1,aa.2.2) else if ((c.words_.getD 0 a')==([101,110,116,101,114]:List UInt8)) then (Ct d c).bind fun U=>b8 (U.1,U.2.1,U.2.2) else if ((c.words_.getD 0 a')==([99,117,114,118,101]:List UInt8)) then (CD d c).bind fun ac=>b8 (ac.1,ac.2,d) else if ((c.words_.getD 0 a')==([97,109,112]:List UInt8)) then (CD d c).bind fun R=>b8 (R.1,R.2,d) else if ((c.words_.getD 0 a')==([98,101,115,116]:List UInt8)) then (CD d c).bind fun J=>b8 (J.1,J.2,d) else if ((c.words_.getD 0 a')==([102,111,108,100]:List UInt8)) then (CD d c).bind fun I=>b8 (I.1,I.2,d) else if ((c.words_.getD 0 a')==([108,97,115,116]:List UInt8)) then ck (AU 1 c.words_.length) <|(Hq d.Estimates (c.words_.getD 1 a')).bind fun C=>(Eu C.1).bind fun au=>(Ep au C.2).bind fun p=>b8 (p.1,p.2,d) else if ((c.words_.getD 0 a')==([112,97,105,114,115]:List UInt8)) then ck (AU 1 c.numbers_.length) <|ck (AU 2 c.numbers_.length) <|(Cl d.Estimates (c.numbers_.getD 1 a') (c.numbers_.getD 2 a')).bind fun o=>(Ga o.1).bind fun ao=>(BJ ao).bind fun aj=>(Ep aj o.2).bind fun j=>b8 (j.1,j.2,d) else (FT d.Log).bind fun i=>(AE (DZ d i.2 i.1 (i.1.length:Int)) (([]:List (List UInt8)),0)).bind fun ae=>(Ho ae).bind fun ad=>b8 (ad,i.2,d)
def GR(d:Bp)(line:List UInt8):Option (Bp×(List (List UInt8))×Bool) :=(CG d.Stars).bind fun o=>(Bb d.Estimates).bind fun j=>(CV line).bind fun C=>if (!C.2) then b8 ((Bp.mk ([]:List Star) ([]:List AA) []),([]:List (List UInt8)),be) else if (!C.1.wrong_) then (Ai (Bp.mk o j d.Log) C.1).bind fun i=>if (!(i.2.1==0)) then (DM i.2.1).bind fun I=>ck (CN ([101,114,114,111,114,32]:List UInt8).length I.length) <|some ((Bp.mk o j d.Log),([(([101,114,114,111,114,32]:List UInt8)++I)]:List (List UInt8)),b9) else b8 (i.2.2,i.1,b9) else if (!(7==0)) then (DM 7).bind fun p=>ck (CN ([101,114,114,111,114,32]:List UInt8).length p.length) <|some ((Bp.mk o j d.Log),([(([101,114,114,111,114,32]:List UInt8)++p)]:List (List UInt8)),b9) else b8 ((Bp.mk o j d.Log),([]:List (List UInt8)),b9)
def Dx:List (List UInt8)->List UInt8
 | []=>[]
 | x::r=>x++10::Dx r
def Bt:Nat->List UInt8->Bp->List UInt8->Option (List UInt8)
 | 0,text,_,acc=>if text=[] then b8 acc else ck (b5 (acc.length+11<=1099511627776)) <| some (acc++[101,114,114,111,114,32,102,117,108,108,10])
 | k+1,text,d,acc=>if text=[] then b8 acc else (cM text [10]).bind fun y=>(GR d y.1).bind fun z=>ck (b5 ((acc++Dx (if z.2.2=b9 then z.2.1 else [[63]])).length<=1099511627776)&&b5 (z.2.1.length<=1099511627776)) <|Bt k y.2.1 (if z.2.2=b9 then z.1 else d) (acc++Dx (if z.2.2=b9 then z.2.1 else [[63]]))
def GA (text:List UInt8):Option (List UInt8) :=KJ.bind fun d=>Bt 60 text d []
def GG (c:UInt8):Option Bool :=some ((b5 (97<=(c.toNat:Int)))&&(b5 ((c.toNat:Int)<=122)))
def Dd (c:UInt8):Option Bool :=some ((b5 (48<=(c.toNat:Int)))&&(b5 ((c.toNat:Int)<=57)))
def IT (s_:List UInt8):Int->Option (Int⊕(Unit⊕Bool))
 | i=>if (b5 (i<(s_.length:Int))) then ck (AU i s_.length) <|(GG (s_.getD i.toNat 0)).bind fun j=>ck (!(!j)||(Dd (s_.getD i.toNat 0)).isSome) <|if (((!j)&&(!((Dd (s_.getD i.toNat 0)).getD a')))&&(!(((s_.getD i.toNat 0).toNat:Int)==45))) then b8 (.inr (.inr be)) else b8 (.inl (bb.wrap (i+1))) else b8 (.inr (.inl ()))
def CI (s_:List UInt8):Option Bool :=ck (!(!((s_==([]:List UInt8))||(b5 (12<(s_.length:Int)))))||AU 0 s_.length) <|ck (!(!((s_==([]:List UInt8))||(b5 (12<(s_.length:Int)))))||(GG (s_.getD 0 0)).isSome) <|if (((s_==([]:List UInt8))||(b5 (12<(s_.length:Int))))||(!((GG (s_.getD 0 0)).getD a'))) then b8 be else (AE (IT s_) 0).bind fun j=>match j with
  | .inl o=>b8 b9
  | .inr i=>b8 i
def Bm(n low i:Int):Option Bool :=some ((b5 (low<=n))&&(b5 (n<=i)))
def EU (n:Int):Option Bool :=(Bm n 0 86399).bind fun i=>b8 i
def Hg (n:Int):Option Bool :=(Bm n (-324000) 324000).bind fun i=>b8 i
def Bo (m:Int):Option Bool :=(Bm m (-2000) 20000).bind fun i=>b8 i
def Jn (x:Star):Option Bool :=(CI x.Name).bind fun i=>ck (!i||(EU x.Ascend).isSome) <|ck (!(i&&((EU x.Ascend).getD a'))||(Hg x.Decl).isSome) <|ck (!((i&&((EU x.Ascend).getD a'))&&((Hg x.Decl).getD a'))||(Bo x.Bright).isSome) <|ck (!(((i&&((EU x.Ascend).getD a'))&&((Hg x.Decl).getD a'))&&((Bo x.Bright).getD a'))||(Bo x.Faint).isSome) <|some (((((i&&((EU x.Ascend).getD a'))&&((Hg x.Decl).getD a'))&&((Bo x.Bright).getD a'))&&((Bo x.Faint).getD a'))&&(b5 (x.Bright<=x.Faint)))
def IC (j:List Star):Int->Option (Int⊕(Unit⊕Bool))
 | i=>if (b5 (i<(j.length:Int))) then ck (AU i j.length) <|(Jn (j.getD i.toNat a')).bind fun o=>ck (!((!(!o))&&(b5 (0<i)))||AU (bb.wrap (i-1)) j.length) <|if ((!o)||((b5 (0<i))&&(!(cA ((j.getD (bb.wrap (i-1)).toNat a').Name) ((j.getD i.toNat a').Name))))) then b8 (.inr (.inr be)) else b8 (.inl (bb.wrap (i+1))) else b8 (.inr (.inl ()))
def Ls (i:List Star):Option Bool :=(AE (IC i) 0).bind fun o=>match o with
 | .inl p=>b8 (b5 ((i.length:Int)<=60))
 | .inr j=>b8 j
def Gu(j:List Star)(o:List UInt8):Int->Option (Int⊕(Unit⊕Int))
 | i=>if (b5 (i<(j.length:Int))) then ck (AU i j.length) <|if (((j.getD i.toNat a').Name)==o) then b8 (.inr (.inr i)) else b8 (.inl (bb.wrap (i+1))) else b8 (.inr (.inl ()))
def Fu(o:List Star)(j:List UInt8):Option Int :=(AE (Gu o j) 0).bind fun p=>match p with
 | .inl C=>b8 (-1)
 | .inr i=>b8 i
def Gv(i:List Star)(x:Star):Int->Option (Int⊕Int)
 | k=>ck (!(b5 (0<k))||AU (bb.wrap (k-1)) i.length) <|if ((b5 (0<k))&&(!(cA ((i.getD (bb.wrap (k-1)).toNat a').Name) x.Name||((i.getD (bb.wrap (k-1)).toNat a').Name)==x.Name))) then b8 (.inl (bb.wrap (k-1))) else b8 (.inr k)
def Fw(i:List Star)(x:Star):Option ((List Star)×Int) :=(Ls i).bind fun C=>if (!C) then b8 (([]:List Star),1) else (Jn x).bind fun p=>if (!p) then b8 (([]:List Star),2) else (Fu i x.Name).bind fun o=>if (b5 (0<=o)) then b8 (([]:List Star),4) else if (b5 (60<=(i.length:Int))) then b8 (([]:List Star),5) else (AE (Gv i x) (i.length:Int)).bind fun j=>ck (If 0 j i.length) <|ck (DH (([]:List Star).length+(cut i 0 j).length) 48) <|ck (DH ((([]:List Star)++(cut i 0 j)).length+([x]:List Star).length) 48) <|ck (If j (i.length:Int) i.length) <|ck (DH (((([]:List Star)++(cut i 0 j))++([x]:List Star)).length+(cut i j (i.length:Int)).length) 48) <|some ((((([]:List Star)++(cut i 0 j))++([x]:List Star))++(cut i j (i.length:Int))),0)
def Ft (n:Int):Option Bool :=(Bm n 0 10000000).bind fun i=>b8 i
def Jm (i:AA):Option Bool :=(Ft i.Time).bind fun j=>ck (!j||(CI i.Star).isSome) <|ck (!(j&&((CI i.Star).getD a'))||(CI i.Observer).isSome) <|ck (!((j&&((CI i.Star).getD a'))&&((CI i.Observer).getD a'))||(Bo i.Mag).isSome) <|some (((j&&((CI i.Star).getD a'))&&((CI i.Observer).getD a'))&&((Bo i.Mag).getD a'))
def DF(a b:AA):Option Bool :=if (!(a.Time==b.Time)) then b8 (b5 (a.Time<b.Time)) else if (!(a.Star==b.Star)) then b8 (cA a.Star b.Star) else b8 (cA a.Observer b.Observer)
def IB (j:List AA):Int->Option (Int⊕(Unit⊕Bool))
 | i=>if (b5 (i<(j.length:Int))) then ck (AU i j.length) <|(Jm (j.getD i.toNat a')).bind fun o=>ck (!((!(!o))&&(b5 (0<i)))||AU (bb.wrap (i-1)) j.length) <|ck (!((!(!o))&&(b5 (0<i)))||(DF (j.getD (bb.wrap (i-1)).toNat a') (j.getD i.toNat a')).isSome) <|if ((!o)||((b5 (0<i))&&(!((DF (j.getD (bb.wrap (i-1)).toNat a') (j.getD i.toNat a')).getD a')))) then b8 (.inr (.inr be)) else b8 (.inl (bb.wrap (i+1))) else b8 (.inr (.inl ()))
def Is (i:List AA):Option Bool :=(AE (IB i) 0).bind fun o=>match o with
 | .inl p=>b8 (b5 ((i.length:Int)<=100))
 | .inr j=>b8 j
def Gt(j:List AA)(p:AA):Int->Option (Int⊕(Unit⊕Int))
 | i=>if (b5 (i<(j.length:Int))) then ck (AU i j.length) <|(DF (j.getD i.toNat a') p).bind fun o=>ck (!(!o)||(DF p (j.getD i.toNat a')).isSome) <|if ((!o)&&(!((DF p (j.getD i.toNat a')).getD a'))) then b8 (.inr (.inr i)) else b8 (.inl (bb.wrap (i+1))) else b8 (.inr (.inl ()))
def KC(j:List AA)(C:AA):Option Int :=(AE (Gt j C) 0).bind fun o=>match o with
 | .inl p=>b8 (-1)
 | .inr i=>b8 i
def IS(i:List AA)(j:AA):Int->Option (Int⊕Int)
 | k=>ck (!(b5 (0<k))||AU (bb.wrap (k-1)) i.length) <|ck (!(b5 (0<k))||(DF j (i.getD (bb.wrap (k-1)).toNat a')).isSome) <|if ((b5 (0<k))&&((DF j (i.getD (bb.wrap (k-1)).toNat a')).getD a')) then b8 (.inl (bb.wrap (k-1))) else b8 (.inr k)
def MQ(i:List AA)(o:AA):Option (List AA) :=(AE (IS i o) (i.length:Int)).bind fun j=>ck (If 0 j i.length) <|ck (DH (([]:List AA).length+(cut i 0 j).length) 56) <|ck (DH ((([]:List AA)++(cut i 0 j)).length+([o]:List AA).length) 56) <|ck (If j (i.length:Int) i.length) <|ck (DH (((([]:List AA)++(cut i 0 j))++([o]:List AA)).length+(cut i j (i.length:Int)).length) 56) <|some (((([]:List AA)++(cut i 0 j))++([o]:List AA))++(cut i j (i.length:Int)))
def Dh(i:List AA)(I:AA):Option ((List AA)×Int) :=(Is i).bind fun C=>if (!C) then b8 (([]:List AA),1) else (Jm I).bind fun p=>if (!p) then b8 (([]:List AA),2) else (KC i I).bind fun o=>if (b5 (0<=o)) then b8 (([]:List AA),4) else if (b5 (100<=(i.length:Int))) then b8 (([]:List AA),5) else (MQ i I).bind fun j=>b8 (j,0)
def IE(j i:Int):Option Int :=ck (nz i) <|if (b5 ((j.tmod i)<0)) then b8 (bb.wrap ((bb.wrap (j.tdiv i))-1)) else b8 (bb.wrap (j.tdiv i))
def JO(o i:Int):Option Int :=(IE (bb.wrap ((bb.wrap (2*o))+i)) (bb.wrap (2*i))).bind fun j=>b8 j
def GF(j:List AA)(p:List UInt8)(out:List AJ)(i:Int):(Int×Int×Int)->Option ((Int×Int×Int)⊕(Int×Int×Int))
 | (o,n,k)=>ck (!(b5 (k<(j.length:Int)))||AU k j.length) <|ck (!(b5 (k<(j.length:Int)))||AU i j.length) <|if ((b5 (k<(j.length:Int)))&&(((j.getD k.toNat a').Time)==((j.getD i.toNat a').Time))) then ck (AU k j.length) <|if ((((j.getD k.toNat a').Star)==p)&&(!((j.getD k.toNat a').Fainter))) then b8 (.inl ((bb.wrap (o+((j.getD k.toNat a').Mag))),(bb.wrap (n+1)),(bb.wrap (k+1)))) else b8 (.inl (o,n,(bb.wrap (k+1)))) else b8 (.inr (o,n,k))
def IA(j:List AA)(C:List UInt8):((List AJ)×Int)->Option (((List AJ)×Int)⊕(List AJ))
 | (out,i)=>if (b5 (i<(j.length:Int))) then (AE (GF j C out i) (0,0,i)).bind fun o=>if (b5 (0<o.2.1)) then ck (AU i j.length) <|(JO o.1 o.2.1).bind fun p=>ck (DH (out.length+([(AJ.mk ((j.getD i.toNat a').Time) p)]:List AJ).length) 16) <|some (.inl ((out++([(AJ.mk ((j.getD i.toNat a').Time) p)]:List AJ)),o.2.2)) else b8 (.inl (out,o.2.2)) else b8 (.inr out)
def NQ(o:List AA)(j:List UInt8):Option (List AJ) :=(AE (IA o j) (([]:List AJ),0)).bind fun i=>b8 i
def Fv(j:List AA)(i:List UInt8):Option ((List AJ)×Int) :=(Is j).bind fun C=>if (!C) then b8 (([]:List AJ),1) else (CI i).bind fun p=>if (!p) then b8 (([]:List AJ),2) else (NQ j i).bind fun o=>b8 (o,0)
def Lz (j:List AJ):Int->Option (Int⊕(Unit⊕Bool))
 | i=>if (b5 (i<(j.length:Int))) then ck (AU i j.length) <|(Ft ((j.getD i.toNat a').Time)).bind fun o=>ck (!(!(!o))||(Bo ((j.getD i.toNat a').Mag)).isSome) <|ck (!((!((!o)||(!((Bo ((j.getD i.toNat a').Mag)).getD a'))))&&(b5 (0<i)))||AU (bb.wrap (i-1)) j.length) <|if (((!o)||(!((Bo ((j.getD i.toNat a').Mag)).getD a')))||((b5 (0<i))&&(b5 (((j.getD i.toNat a').Time)<=((j.getD (bb.wrap (i-1)).toNat a').Time))))) then b8 (.inr (.inr be)) else b8 (.inl (bb.wrap (i+1))) else b8 (.inr (.inl ()))
def Ir (i:List AJ):Option Bool :=(AE (Lz i) 0).bind fun o=>match o with
 | .inl p=>b8 (b5 ((i.length:Int)<=100))
 | .inr j=>b8 j
def Kv(a b:Int):Option Int :=if (b5 (a<b)) then b8 a else b8 b
def Kw(a b:Int):Option Int :=if (b5 (b<a)) then b8 a else b8 b
def Ed (j:List AJ):(Int×Int×Int)->Option ((Int×Int×Int)⊕(Int×Int))
 | (low,high,i)=>if (b5 (i<(j.length:Int))) then ck (AU i j.length) <|(Kv low ((j.getD i.toNat a').Mag)).bind fun p=>(Kw high ((j.getD i.toNat a').Mag)).bind fun o=>b8 (.inl (p,o,(bb.wrap (i+1)))) else b8 (.inr (low,high))
def Cr (i:List AJ):Option (Int×Int) :=(Ir i).bind fun o=>if (!o) then b8 (0,1) else if ((i.length:Int)==0) then b8 (0,3) else ck (AU 0 i.length) <|(AE (Ed i) ((i.getD 0 a').Mag,(i.getD 0 a').Mag,1)).bind fun j=>b8 ((bb.wrap (j.2-j.1)),0)
def FC (n:Int):Option Int :=if (b5 (n<0)) then b8 (bb.wrap (0-n)) else b8 n
def KW(o:AF)(i:Int):Option Int :=(IE (bb.wrap (i-o.Epoch)) o.Period).bind fun j=>b8 j
def EN(o:AF)(i:Int):Option Int :=(KW o i).bind fun j=>b8 (bb.wrap ((bb.wrap (i-o.Epoch))-(bb.wrap (j*o.Period))))
def Ku (i:List Int):Option (List Int) :=ck (DH (([]:List Int).length+i.length) 8) <|some (([]:List Int)++i)
def Fe(j:List AJ)(o:AF)(out:List Int)(i:Int):Int->Option (Int⊕Int)
 | k=>ck (!(b5 (0<k))||AU (bb.wrap (k-1)) out.length) <|ck (!(b5 (0<k))||AU (out.getD (bb.wrap (k-1)).toNat a') j.length) <|ck (!(b5 (0<k))||(EN o ((j.getD (out.getD (bb.wrap (k-1)).toNat a').toNat a').Time)).isSome) <|ck (!(b5 (0<k))||AU i j.length) <|ck (!(b5 (0<k))||(EN o ((j.getD i.toNat a').Time)).isSome) <|if ((b5 (0<k))&&(b5 (((EN o ((j.getD i.toNat a').Time)).getD a')<((EN o ((j.getD (out.getD (bb.wrap (k-1)).toNat a').toNat a').Time)).getD a')))) then b8 (.inl (bb.wrap (k-1))) else b8 (.inr k)
def Ff(p:List AJ)(C:AF):((List Int)×Int)->Option (((List Int)×Int)⊕(List Int))
 | (out,i)=>if (b5 (i<(p.length:Int))) then (AE (Fe p C out i) (out.length:Int)).bind fun j=>ck (If 0 j out.length) <|(Ku (cut out 0 j)).bind fun o=>ck (DH (o.length+([i]:List Int).length) 8) <|ck (If j (out.length:Int) out.length) <|ck (DH ((o++([i]:List Int)).length+(cut out j (out.length:Int)).length) 8) <|some (.inl (((o++([i]:List Int))++(cut out j (out.length:Int))),(bb.wrap (i+1)))) else b8 (.inr out)
def Hf(o:AF)(i:List AJ):Option (List Int) :=(AE (Ff i o) (([]:List Int),0)).bind fun j=>b8 j
def ET(o:List AJ)(j:List Int):(Int×Int)->Option ((Int×Int)⊕Int)
 | (p,i)=>if (b5 (i<(j.length:Int))) then ck (nz (j.length:Int)) <|ck (AU ((bb.wrap (i+1)).tmod (j.length:Int)) j.length) <|ck (AU (j.getD ((bb.wrap (i+1)).tmod (j.length:Int)).toNat a') o.length) <|ck (AU i j.length) <|ck (AU (j.getD i.toNat a') o.length) <|(FC (bb.wrap (((o.getD (j.getD ((bb.wrap (i+1)).tmod (j.length:Int)).toNat a').toNat a').Mag)-((o.getD (j.getD i.toNat a').toNat a').Mag)))).bind fun C=>b8 (.inl ((bb.wrap (p+C)),(bb.wrap (i+1)))) else b8 (.inr p)
def FM(i:List AJ)(j:Int):Option Int :=(Hf (AF.mk 0 j) i).bind fun p=>(AE (ET i p) (0,0)).bind fun o=>b8 o
def IQ(i:List AJ)(x:CB):((List Int)×Int)->Option (((List Int)×Int)⊕(List Int))
 | (out,p)=>if (b5 (p<=x.To)) then (FM i p).bind fun j=>ck (DH (out.length+([j]:List Int).length) 8) <|some (.inl ((out++([j]:List Int)),(bb.wrap (p+x.Step)))) else b8 (.inr out)
def Kt(i:List AJ)(x:CB):Option (List Int) :=(AE (IQ i x) (([]:List Int),x.From)).bind fun j=>b8 j
def Fd(j:List Int)(o p:Int):(Int×Int)->Option ((Int×Int)⊕Int)
 | (i,k)=>if (b5 (k<(j.length:Int))) then if ((b5 (o<=k))&&(b5 (k<=p))) then b8 (.inl (i,(bb.wrap (k+1)))) else ck (!(!(b5 (i<0)))||AU k j.length) <|ck (!(!(b5 (i<0)))||AU i j.length) <|if ((b5 (i<0))||(b5 ((j.getD k.toNat a')<(j.getD i.toNat a')))) then b8 (.inl (k,(bb.wrap (k+1)))) else b8 (.inl (i,(bb.wrap (k+1)))) else b8 (.inr i)
def KB(p:List Int)(i o:Int):Option Int :=(AE (Fd p i o) ((-1),0)).bind fun j=>b8 j
def DV (n:Int):Option Bool :=(Bm n 1 1000000).bind fun i=>b8 i
def JN (x:CB):Option Int :=ck (nz x.Step) <|some (bb.wrap ((bb.wrap ((bb.wrap (x.To-x.From)).tdiv x.Step))+1))
def Kj (x:CB):Option Bool :=(DV x.From).bind fun i=>ck (!i||(Bm x.To x.From 1000000).isSome) <|ck (!(i&&((Bm x.To x.From 1000000).getD a'))||(DV x.Step).isSome) <|ck (!((i&&((Bm x.To x.From 1000000).getD a'))&&((DV x.Step).getD a'))||(JN x).isSome) <|some (((i&&((Bm x.To x.From 1000000).getD a'))&&((DV x.Step).getD a'))&&(b5 (((JN x).getD a')<=500)))
def LL(i:List AJ)(x:CB):Option Int :=(Ir i).bind fun j=>ck (!(!(!j))||(Kj x).isSome) <|if ((!j)||(!((Kj x).getD a'))) then b8 1 else if (b5 (40<(i.length:Int))) then b8 5 else b8 0
def KV(i:List AJ)(x:CB):Option Int :=(LL i x).bind fun j=>if ((j==0)&&(b5 ((i.length:Int)<3))) then b8 3 else b8 j
def Co(i:List AJ)(x:CB):Option (Int×Int) :=(KV i x).bind fun j=>if (!(j==0)) then b8 (0,j) else (Kt i x).bind fun p=>(KB p 0 (-1)).bind fun o=>b8 ((bb.wrap (x.From+(bb.wrap (x.Step*o)))),0)
def NO (j:AF):Option Bool :=(Ft j.Epoch).bind fun i=>ck (!i||(DV j.Period).isSome) <|some (i&&((DV j.Period).getD a'))
def EV(p:AF)(i:List AJ):Option ((List Int)×Int) :=(NO p).bind fun j=>ck (!(!(!j))||(Ir i).isSome) <|if ((!j)||(!((Ir i).getD a'))) then b8 (([]:List Int),1) else (Hf p i).bind fun o=>b8 (o,0)
def GS(j:List AA)(o:List UInt8)(p:AA):Int->Option (Int⊕(Unit⊕(AA×Int)))
 | i=>if (b5 (0<=i)) then ck (AU i j.length) <|if (((j.getD i.toNat a').Star)==o) then b8 (.inr (.inr ((j.getD i.toNat a'),0))) else b8 (.inl (bb.wrap (i-1))) else b8 (.inr (.inl ()))
def GH(i:List AA)(o:List UInt8):Option (AA×Int) :=(Is i).bind fun I=>if (!I) then b8 ((AA.mk 0 [] [] 0 be),1) else (CI o).bind fun C=>if (!C) then b8 ((AA.mk 0 [] [] 0 be),2) else (AE (GS i o (AA.mk 0 [] [] 0 be)) (bb.wrap ((i.length:Int)-1))).bind fun p=>match p with
   | .inl J=>b8 ((AA.mk 0 [] [] 0 be),3)
   | .inr j=>b8 (j.1,j.2)
def Fg(a b:AA)(i:Int):Option Bool :=if (a.Fainter&&b.Fainter) then b8 be else if a.Fainter then b8 (b5 ((bb.wrap (b.Mag+i))<a.Mag)) else if b.Fainter then b8 (b5 ((bb.wrap (a.Mag+i))<b.Mag)) else (FC (bb.wrap (a.Mag-b.Mag))).bind fun j=>b8 (b5 (i<j))
def Ca(j:List AA)(o p i:Int):((List (List Int))×Int)->Option (((List (List Int))×Int)⊕(List (List Int)))
 | (out,k)=>if (b5 (k<(j.length:Int))) then ck (AU i j.length) <|ck (AU k j.length) <|ck (!((((j.getD i.toNat a').Star)==((j.getD k.toNat a').Star))&&(b5 ((bb.wrap (((j.getD k.toNat a').Time)-((j.getD i.toNat a').Time)))<=o)))||(Fg (j.getD i.toNat a') (j.getD k.toNat a') p).isSome) <|if (((((j.getD i.toNat a').Star)==((j.getD k.toNat a').Star))&&(b5 ((bb.wrap (((j.getD k.toNat a').Time)-((j.getD i.toNat a').Time)))<=o)))&&((Fg (j.getD i.toNat a') (j.getD k.toNat a') p).getD a')) then ck (DH (out.length+([([i,k]:List Int)]:List (List Int)).length) 24) <|some (.inl ((out++([([i,k]:List Int)]:List (List Int))),(bb.wrap (k+1)))) else b8 (.inl (out,(bb.wrap (k+1)))) else b8 (.inr out)
def Cb(j:List AA)(o C:Int):((List (List Int))×Int)->Option (((List (List Int))×Int)⊕(List (List Int)))
 | (out,i)=>if (b5 (i<(j.length:Int))) then (AE (Ca j o C i) (out,(bb.wrap (i+1)))).bind fun p=>b8 (.inl (p,(bb.wrap (i+1)))) else b8 (.inr out)
def Ck(j:List AA)(i o:Int):Option ((List (List Int))×Int) :=(Is j).bind fun I=>if (!I) then b8 (([]:List (List Int)),1) else (Bm i 0 100000).bind fun p=>ck (!(!(!p))||(Bm o 1 20000).isSome) <|if ((!p)||(!((Bm o 1 20000).getD a'))) then b8 (([]:List (List Int)),2) else (AE (Cb j i o) (([]:List (List Int)),0)).bind fun C=>b8 (C,0)
def FA (r:Gf):Option Int :=if ((r.list_.length:Int)==0) then b8 0 else ck (AU (bb.wrap ((r.list_.length:Int)-1)) r.list_.length) <|some ((r.list_.getD (bb.wrap ((r.list_.length:Int)-1)).toNat a').Day)
def EA (n:Int):((List UInt8)×Int)->Option (((List UInt8)×Int)⊕(List UInt8))
 | (out,k)=>if (!(k==0)) then ck (nz 10) <|if (b5 ((k.tmod 10)<0)) then ck (DH (([(rc (bS.wrap (bb.wrap (48+(bb.wrap (0-(k.tmod 10)))))))]:List UInt8).length+out.length) 1) <|some (.inl ((([(rc (bS.wrap (bb.wrap (48+(bb.wrap (0-(k.tmod 10)))))))]:List UInt8)++out),(bb.wrap (k.tdiv 10)))) else ck (DH (([(rc (bS.wrap (bb.wrap (48+(k.tmod 10)))))]:List UInt8).length+out.length) 1) <|some (.inl ((([(rc (bS.wrap (bb.wrap (48+(k.tmod 10)))))]:List UInt8)++out),(bb.wrap (k.tdiv 10)))) else b8 (.inr out)
def BB (n:Int):Option (List UInt8) :=(AE (EA n) (([]:List UInt8),n)).bind fun i=>if ((i.length:Int)==0) then b8 ([48]:List UInt8) else if (b5 (n<0)) then ck (CN ([45]:List UInt8).length i.length) <|some (([45]:List UInt8)++i) else b8 i
def Dz (j:AW):Option (List UInt8) :=(BB j.Day).bind fun i=>ck (CN i.length ([32]:List UInt8).length) <|ck (CN (i++([32]:List UInt8)).length j.What.length) <|ck (CN ((i++([32]:List UInt8))++j.What).length ([32]:List UInt8).length) <|(BB j.Value).bind fun o=>ck (CN (((i++([32]:List UInt8))++j.What)++([32]:List UInt8)).length o.length) <|some ((((i++([32]:List UInt8))++j.What)++([32]:List UInt8))++o)
def EG (j:List UInt8):(Int×Int)->Option ((Int×Int)⊕Int)
 | (o,i)=>if (b5 (i<(j.length:Int))) then ck (AU i j.length) <|ck (nz 65521) <|some (.inl (((bb.wrap ((bb.wrap (31*o))+((j.getD i.toNat 0).toNat:Int))).tmod 65521),(bb.wrap (i+1)))) else b8 (.inr o)
def Ez(i:Int)(j:List UInt8):Option Int :=ck (nz 65521) <|(AE (EG j) (((bb.wrap (i+23)).tmod 65521),0)).bind fun o=>b8 o
def He(o:Int)(p:AW):Option (List UInt8) :=(Dz p).bind fun i=>ck (CN i.length ([32]:List UInt8).length) <|(BB o).bind fun j=>ck (CN (i++([32]:List UInt8)).length j.length) <|ck (CN ((i++([32]:List UInt8))++j).length ([10]:List UInt8).length) <|some (((i++([32]:List UInt8))++j)++([10]:List UInt8))
def Eo(s_:List UInt8)(j:UInt8):((List (List UInt8))×Int×Int)->Option (((List (List UInt8))×Int×Int)⊕((List (List UInt8))×Int))
 | (out,from_,i)=>if (b5 (i<(s_.length:Int))) then ck (AU i s_.length) <|if (((s_.getD i.toNat 0).toNat:Int)==(j.toNat:Int)) then ck (If from_ i s_.length) <|ck (DH (out.length+([(cut s_ from_ i)]:List (List UInt8)).length) 16) <|some (.inl ((out++([(cut s_ from_ i)]:List (List UInt8))),(bb.wrap (i+1)),(bb.wrap (i+1)))) else b8 (.inl (out,from_,(bb.wrap (i+1)))) else b8 (.inr (out,from_))
def Dc(s_:List UInt8)(j:UInt8):Option (List (List UInt8)) :=(AE (Eo s_ j) (([]:List (List UInt8)),0,0)).bind fun i=>ck (If i.2 (s_.length:Int) s_.length) <|ck (DH (i.1.length+([(cut s_ i.2 (s_.length:Int))]:List (List UInt8)).length) 16) <|some (i.1++([(cut s_ i.2 (s_.length:Int))]:List (List UInt8)))
def Dt(s_ t:List UInt8):(Int×Int)->Option ((Int×Int)⊕(Int⊕(Int×Bool)))
 | (n,i)=>if (b5 (i<(t.length:Int))) then ck (AU i t.length) <|(Dd (t.getD i.toNat 0)).bind fun j=>if (!j) then b8 (.inr (.inr (0,be))) else b8 (.inl ((bb.wrap ((bb.wrap (10*n))+(bb.wrap (bS.wrap (((t.getD i.toNat 0).toNat:Int)-48))))),(bb.wrap (i+1)))) else b8 (.inr (.inl n))
def Je(s_ t:List UInt8):(Int×Int)->Option ((Int×Int)⊕(Int⊕(Int×Bool)))
 | (n,i)=>if (b5 (i<(t.length:Int))) then ck (AU i t.length) <|(Dd (t.getD i.toNat 0)).bind fun j=>if (!j) then b8 (.inr (.inr (0,be))) else b8 (.inl ((bb.wrap ((bb.wrap (10*n))+(bb.wrap (bS.wrap (((t.getD i.toNat 0).toNat:Int)-48))))),(bb.wrap (i+1)))) else b8 (.inr (.inl n))
def Bi (s_:List UInt8):Option (Int×Bool) :=ck (!(!(s_==([]:List UInt8)))||AU 0 s_.length) <|if ((!(s_==([]:List UInt8)))&&(((s_.getD 0 0).toNat:Int)==45)) then ck (If 1 (s_.length:Int) s_.length) <|if ((b5 (((cut s_ 1 (s_.length:Int)).length:Int)<1))||(b5 (18<((cut s_ 1 (s_.length:Int)).length:Int)))) then b8 (0,be) else (AE (Dt s_ (cut s_ 1 (s_.length:Int))) (0,0)).bind fun aa=>match aa with
   | .inl j=>if (b5 (((cut s_ 1 (s_.length:Int)).length:Int)<(s_.length:Int))) then (BB (bb.wrap (0-j))).bind fun U=>if (!(U==s_)) then b8 (0,be) else b8 ((bb.wrap (0-j)),b9) else (BB j).bind fun R=>if (!(R==s_)) then b8 (0,be) else b8 (j,b9)
   | .inr p=>b8 (p.1,p.2) else if ((b5 ((s_.length:Int)<1))||(b5 (18<(s_.length:Int)))) then b8 (0,be) else (AE (Je s_ s_) (0,0)).bind fun J=>match J with
   | .inl i=>if (b5 ((s_.length:Int)<(s_.length:Int))) then (BB (bb.wrap (0-i))).bind fun I=>if (!(I==s_)) then b8 (0,be) else b8 ((bb.wrap (0-i)),b9) else (BB i).bind fun C=>if (!(C==s_)) then b8 (0,be) else b8 (i,b9)
   | .inr o=>b8 (o.1,o.2)
def MP (n:Int):Option Bool :=(Bm n 0 100000).bind fun i=>b8 i
def Hz (j:AW):Option Bool :=(MP j.Day).bind fun i=>ck (!i||(CI j.What).isSome) <|ck (!(i&&((CI j.What).getD a'))||(Bm j.Value (-1000000) 1000000).isSome) <|some ((i&&((CI j.What).getD a'))&&((Bm j.Value (-1000000) 1000000).getD a'))
def DU(r:Gf)(j:Bool):Int->Option (Int⊕Int)
 | i=>ck (!(b5 (i<(r.s_.length:Int)))||AU i r.s_.length) <|if ((b5 (i<(r.s_.length:Int)))&&(!(((r.s_.getD i.toNat 0).toNat:Int)==10))) then b8 (.inl (bb.wrap (i+1))) else b8 (.inr i)
def JF (r:Gf):Option (Option (Int×Int×AW)) :=(AE (DU r be) r.at_).bind fun p=>if (b5 ((r.s_.length:Int)<=p)) then b8 (c6) else ck (If r.at_ p r.s_.length) <|(Dc (cut r.s_ r.at_ p) (32:UInt8)).bind fun j=>if (!((j.length:Int)==4)) then b8 (c6) else ck (AU 0 j.length) <|(Bi (j.getD 0 a')).bind fun o=>ck (AU 2 j.length) <|(Bi (j.getD 2 a')).bind fun i=>ck (AU 1 j.length) <|ck (!(!((!o.2)||(!i.2)))||(Hz (AW.mk o.1 (j.getD 1 a') i.1)).isSome) <|ck (!(!(((!o.2)||(!i.2))||(!((Hz (AW.mk o.1 (j.getD 1 a') i.1)).getD a'))))||(FA r).isSome) <|if ((((!o.2)||(!i.2))||(!((Hz (AW.mk o.1 (j.getD 1 a') i.1)).getD a')))||(b5 (o.1<((FA r).getD a')))) then b8 (c6) else (Dz (AW.mk o.1 (j.getD 1 a') i.1)).bind fun J=>(Ez r.stamp_ J).bind fun C=>(He C (AW.mk o.1 (j.getD 1 a') i.1)).bind fun I=>ck (If r.at_ (bb.wrap (p+1)) r.s_.length) <|if (!(I==(cut r.s_ r.at_ (bb.wrap (p+1))))) then b8 (c6) else b8 (b8 (p,C,(AW.mk o.1 (j.getD 1 a') i.1)))
def IP (r:Gf):Option (Bool×Gf) :=(JF r).bind fun y=>match y with
 | none=>b8 (be,r)
 | some q=>ck (DH (r.list_.length+([q.2.2]:List AW).length) 32) <|some (b9,Gf.mk r.s_ (bb.wrap (q.1+1)) q.2.1 (r.list_++[q.2.2]))
def Gs:Gf->Option (Gf⊕Gf)
 | r=>(IP r).bind fun y=>if y.1 then b8 (.inl y.2) else b8 (.inr y.2)
def Hd (s_:List UInt8):Option Gf:=AE Gs (Gf.mk s_ 0 0 [])
def ES (s_:List UInt8):Option (Gf×Int) :=if (b5 (4000<(s_.length:Int))) then b8 ((Gf.mk [] 0 0 ([]:List AW)),5) else (Hd s_).bind fun i=>if (!(i.at_==(s_.length:Int))) then b8 (i,8) else b8 (i,0)
def FE(log:List UInt8)(o:AW):Option ((List UInt8)×Int) :=(ES log).bind fun i=>if (!(i.2==0)) then b8 (([]:List UInt8),i.2) else (Hz o).bind fun J=>if (!J) then b8 (([]:List UInt8),7) else (FA i.1).bind fun I=>if (b5 (o.Day<I)) then b8 (([]:List UInt8),6) else (Dz o).bind fun C=>(Ez i.1.stamp_ C).bind fun p=>(He p o).bind fun j=>ck (CN log.length j.length) <|if (b5 (4000<((log++j).length:Int))) then b8 (([]:List UInt8),5) else b8 ((log++j),0)
def Iq(log what:List UInt8):Option (Gf×Int) :=(ES log).bind fun i=>ck (!(i.2==0)||(CI what).isSome) <|if ((i.2==0)&&(!((CI what).getD a'))) then b8 (i.1,2) else b8 (i.1,i.2)
def GK(what:List UInt8)(r:Gf):((List Int)×Int)->Option (((List Int)×Int)⊕(List Int))
 | (out,i)=>if (b5 (i<(r.list_.length:Int))) then ck (AU i r.list_.length) <|if (((r.list_.getD i.toNat a').What)==what) then ck (DH (out.length+([(r.list_.getD i.toNat a').Value]:List Int).length) 8) <|some (.inl ((out++([(r.list_.getD i.toNat a').Value]:List Int)),(bb.wrap (i+1)))) else b8 (.inl (out,(bb.wrap (i+1)))) else b8 (.inr out)
def EO(log what:List UInt8):Option ((List Int)×Int) :=(Iq log what).bind fun i=>if (!(i.2==0)) then b8 (([]:List Int),i.2) else (AE (GK what i.1) (([]:List Int),0)).bind fun j=>b8 (j,0)
def ID (n:Int):Option (List UInt8) :=ck (nz 100) <|(BB (bb.wrap (n.tdiv 100))).bind fun j=>ck (nz 10) <|(BB ((bb.wrap (n.tdiv 10)).tmod 10)).bind fun i=>ck (CN j.length i.length) <|(BB (n.tmod 10)).bind fun o=>ck (CN (j++i).length o.length) <|some ((j++i)++o)
def CY (m:Int):Option (List UInt8) :=if (b5 (m<0)) then ck (nz 1000) <|(BB (bb.wrap ((bb.wrap (0-m)).tdiv 1000))).bind fun j=>ck (CN ([45]:List UInt8).length j.length) <|ck (CN (([45]:List UInt8)++j).length ([46]:List UInt8).length) <|(ID ((bb.wrap (0-m)).tmod 1000)).bind fun p=>ck (CN ((([45]:List UInt8)++j)++([46]:List UInt8)).length p.length) <|some (((([45]:List UInt8)++j)++([46]:List UInt8))++p) else ck (nz 1000) <|(BB (bb.wrap (m.tdiv 1000))).bind fun i=>ck (CN ([]:List UInt8).length i.length) <|ck (CN (([]:List UInt8)++i).length ([46]:List UInt8).length) <|(ID (m.tmod 1000)).bind fun o=>ck (CN ((([]:List UInt8)++i)++([46]:List UInt8)).length o.length) <|some (((([]:List UInt8)++i)++([46]:List UInt8))++o)
def JG (j:List AA):((List UInt8)×Int)->Option (((List UInt8)×Int)⊕(List UInt8))
 | (out,i)=>if (b5 (i<(j.length:Int))) then ck (AU i j.length) <|(BB ((j.getD i.toNat a').Time)).bind fun o=>ck (CN o.length ([32]:List UInt8).length) <|ck (CN (o++([32]:List UInt8)).length ((j.getD i.toNat a').Star).length) <|ck (CN ((o++([32]:List UInt8))++((j.getD i.toNat a').Star)).length ([32]:List UInt8).length) <|ck (CN (((o++([32]:List UInt8))++((j.getD i.toNat a').Star))++([32]:List UInt8)).length ((j.getD i.toNat a').Observer).length) <|ck (CN ((((o++([32]:List UInt8))++((j.getD i.toNat a').Star))++([32]:List UInt8))++((j.getD i.toNat a').Observer)).length ([32]:List UInt8).length) <|ck (DH (out.length+(((((o++([32]:List UInt8))++((j.getD i.toNat a').Star))++([32]:List UInt8))++((j.getD i.toNat a').Observer))++([32]:List UInt8)).length) 1) <|if (j.getD i.toNat a').Fainter then ck (DH ((out++(((((o++([32]:List UInt8))++((j.getD i.toNat a').Star))++([32]:List UInt8))++((j.getD i.toNat a').Observer))++([32]:List UInt8))).length+([(60:UInt8)]:List UInt8).length) 1) <|(CY ((j.getD i.toNat a').Mag)).bind fun C=>ck (CN C.length ([10]:List UInt8).length) <|ck (DH (((out++(((((o++([32]:List UInt8))++((j.getD i.toNat a').Star))++([32]:List UInt8))++((j.getD i.toNat a').Observer))++([32]:List UInt8)))++([(60:UInt8)]:List UInt8)).length+(C++([10]:List UInt8)).length) 1) <|some (.inl ((((out++(((((o++([32]:List UInt8))++((j.getD i.toNat a').Star))++([32]:List UInt8))++((j.getD i.toNat a').Observer))++([32]:List UInt8)))++([(60:UInt8)]:List UInt8))++(C++([10]:List UInt8))),(bb.wrap (i+1)))) else (CY ((j.getD i.toNat a').Mag)).bind fun p=>ck (CN p.length ([10]:List UInt8).length) <|ck (DH ((out++(((((o++([32]:List UInt8))++((j.getD i.toNat a').Star))++([32]:List UInt8))++((j.getD i.toNat a').Observer))++([32]:List UInt8))).length+(p++([10]:List UInt8)).length) 1) <|some (.inl (((out++(((((o++([32]:List UInt8))++((j.getD i.toNat a').Star))++([32]:List UInt8))++((j.getD i.toNat a').Observer))++([32]:List UInt8)))++(p++([10]:List UInt8))),(bb.wrap (i+1)))) else b8 (.inr out)
def FB (j:List AA):Option (List UInt8) :=(AE (JG j) (([]:List UInt8),0)).bind fun i=>b8 i
def Bu (i:List UInt8):Option (List UInt8) :=if (i==([115,116,97,114]:List UInt8)) then b8 ([120,110,110,109,109]:List UInt8) else if (i==([101,115,116]:List UInt8)) then b8 ([110,120,120,101]:List UInt8) else if (i==([98,101,115,116]:List UInt8)) then b8 ([120,110,110,110]:List UInt8) else if (i==([101,110,116,101,114]:List UInt8)) then b8 ([110,120,110]:List UInt8) else if (i==([102,111,108,100]:List UInt8)) then b8 ([120,110]:List UInt8) else if (i==([112,97,105,114,115]:List UInt8)) then b8 ([110,110]:List UInt8) else if (i==([97,109,112]:List UInt8)) then b8 ([120]:List UInt8) else if (i==([99,117,114,118,101]:List UInt8)) then b8 ([120]:List UInt8) else if (i==([108,97,115,116]:List UInt8)) then b8 ([120]:List UInt8) else if (i==([108,111,103]:List UInt8)) then b8 ([]:List UInt8) else b8 ([45]:List UInt8)
def Cn(s_:List UInt8)(w:List (List UInt8))(o:Bool):(Int×Int)->Option ((Int×Int)⊕(Int⊕(Int×Bool)))
 | (n,i)=>if (b5 (i<3)) then ck (AU 1 w.length) <|ck (AU i ((w.getD 1 a').length)) <|(Dd ((w.getD 1 a').getD i.toNat 0)).bind fun j=>if (!j) then b8 (.inr (.inr (0,be))) else b8 (.inl ((bb.wrap ((bb.wrap (10*n))+(bb.wrap (bS.wrap ((((w.getD 1 a').getD i.toNat 0).toNat:Int)-48))))),(bb.wrap (i+1)))) else b8 (.inr (.inl n))
def Kd(s_:List UInt8)(w:List (List UInt8))(o:Bool):(Int×Int)->Option ((Int×Int)⊕(Int⊕(Int×Bool)))
 | (n,i)=>if (b5 (i<3)) then ck (AU 1 w.length) <|ck (AU i ((w.getD 1 a').length)) <|(Dd ((w.getD 1 a').getD i.toNat 0)).bind fun j=>if (!j) then b8 (.inr (.inr (0,be))) else b8 (.inl ((bb.wrap ((bb.wrap (10*n))+(bb.wrap (bS.wrap ((((w.getD 1 a').getD i.toNat 0).toNat:Int)-48))))),(bb.wrap (i+1)))) else b8 (.inr (.inl n))
def CZ (s_:List UInt8):Option (Int×Bool) :=(Dc s_ (46:UInt8)).bind fun i=>ck (!(!(!((i.length:Int)==2)))||AU 1 i.length) <|if ((!((i.length:Int)==2))||(!(((i.getD 1 a').length:Int)==3))) then b8 (0,be) else ck (AU 0 i.length) <|ck (!(b5 (0<((i.getD 0 a').length:Int)))||AU 0 ((i.getD 0 a').length)) <|if ((b5 (0<((i.getD 0 a').length:Int)))&&((((i.getD 0 a').getD 0 0).toNat:Int)==45)) then ck (If 1 ((i.getD 0 a').length:Int) ((i.getD 0 a').length)) <|(Bi (cut (i.getD 0 a') 1 ((i.getD 0 a').length:Int))).bind fun C=>ck (!(!(!C.2))||(Bm C.1 0 20).isSome) <|if ((!C.2)||(!((Bm C.1 0 20).getD a'))) then b8 (0,be) else (AE (Cn s_ i ((b5 (0<((i.getD 0 a').length:Int)))&&((((i.getD 0 a').getD 0 0).toNat:Int)==45))) (C.1,0)).bind fun ab=>match ab with
    | .inl o=>(Bo (bb.wrap (0-o))).bind fun U=>ck (!(!(!U))||(CY (bb.wrap (0-o))).isSome) <|if ((!U)||(!(((CY (bb.wrap (0-o))).getD a')==s_))) then b8 (0,be) else b8 ((bb.wrap (0-o)),b9)
    | .inr J=>b8 (J.1,J.2) else (Bi (i.getD 0 a')).bind fun p=>ck (!(!(!p.2))||(Bm p.1 0 20).isSome) <|if ((!p.2)||(!((Bm p.1 0 20).getD a'))) then b8 (0,be) else (AE (Kd s_ i ((b5 (0<((i.getD 0 a').length:Int)))&&((((i.getD 0 a').getD 0 0).toNat:Int)==45))) (p.1,0)).bind fun aa=>match aa with
    | .inl j=>(Bo j).bind fun R=>ck (!(!(!R))||(CY j).isSome) <|if ((!R)||(!(((CY j).getD a')==s_))) then b8 (0,be) else b8 (j,b9)
    | .inr I=>b8 (I.1,I.2)
def FD (i:Int):Option (List UInt8) :=(Bm i 0 (bb.wrap ((([([111,107]:List UInt8),([105,110,118,97,108,105,100]:List UInt8),([114,97,110,103,101]:List UInt8),([110,111,116,45,102,111,117,110,100]:List UInt8),([101,120,105,115,116,115]:List UInt8),([102,117,108,108]:List UInt8),([115,116,97,116,101]:List UInt8),([115,121,110,116,97,120]:List UInt8),([102,111,114,109,97,116]:List UInt8),([99,108,97,115,104]:List UInt8),([99,108,111,117,100,121]:List UInt8)]:List (List UInt8)).length:Int)-1))).bind fun j=>if (!j) then b8 ([]:List UInt8) else ck (AU i (([([111,107]:List UInt8),([105,110,118,97,108,105,100]:List UInt8),([114,97,110,103,101]:List UInt8),([110,111,116,45,102,111,117,110,100]:List UInt8),([101,120,105,115,116,115]:List UInt8),([102,117,108,108]:List UInt8),([115,116,97,116,101]:List UInt8),([115,121,110,116,97,120]:List UInt8),([102,111,114,109,97,116]:List UInt8),([99,108,97,115,104]:List UInt8),([99,108,111,117,100,121]:List UInt8)]:List (List UInt8)).length)) <|some (([([111,107]:List UInt8),([105,110,118,97,108,105,100]:List UInt8),([114,97,110,103,101]:List UInt8),([110,111,116,45,102,111,117,110,100]:List UInt8),([101,120,105,115,116,115]:List UInt8),([102,117,108,108]:List UInt8),([115,116,97,116,101]:List UInt8),([115,121,110,116,97,120]:List UInt8),([102,111,114,109,97,116]:List UInt8),([99,108,97,115,104]:List UInt8),([99,108,111,117,100,121]:List UInt8)]:List (List UInt8)).getD i.toNat a')
def Jl :Option Bp :=some (Bp.mk ([]:List Star) ([]:List AA) [])
def ER (d:Bp):Option (List UInt8) :=(BB (d.Stars.length:Int)).bind fun i=>ck (CN i.length ([32,115,116,97,114,115,32]:List UInt8).length) <|(BB (d.Estimates.length:Int)).bind fun j=>ck (CN (i++([32,115,116,97,114,115,32]:List UInt8)).length j.length) <|ck (CN ((i++([32,115,116,97,114,115,32]:List UInt8))++j).length ([32,101,115,116,105,109,97,116,101,115]:List UInt8).length) <|some (((i++([32,115,116,97,114,115,32]:List UInt8))++j)++([32,101,115,116,105,109,97,116,101,115]:List UInt8))
def En (j:List (List UInt8)):((List UInt8)×Int)->Option (((List UInt8)×Int)⊕(List UInt8))
 | (out,i)=>if (b5 (i<(j.length:Int))) then ck (AU i j.length) <|ck (DH (out.length+(j.getD i.toNat a').length) 1) <|ck (DH ((out++(j.getD i.toNat a')).length+([(10:UInt8)]:List UInt8).length) 1) <|some (.inl (((out++(j.getD i.toNat a'))++([(10:UInt8)]:List UInt8)),(bb.wrap (i+1)))) else b8 (.inr out)
def GE (i:List (List UInt8)):Option (List UInt8) :=(AE (En i) (([]:List UInt8),0)).bind fun j=>b8 j
def NR (j:List Int):(Int×Int)->Option ((Int×Int)⊕Int)
 | (o,i)=>if (b5 (i<(j.length:Int))) then ck (AU i j.length) <|some (.inl ((bb.wrap (o+(j.getD i.toNat a'))),(bb.wrap (i+1)))) else b8 (.inr o)
def Il (i:List Int):Option Int :=(AE (NR i) (0,0)).bind fun j=>b8 j
