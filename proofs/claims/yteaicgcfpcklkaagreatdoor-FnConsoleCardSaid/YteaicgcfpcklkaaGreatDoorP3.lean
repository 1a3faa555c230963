/- Lemmas and walks, several texts in one. No condition. -/
import Derived.Test.YteaicgcfpcklkaaGreatDoorP2
import Derived.ProofKit
import Derived.OpenShut
import Derived.Test.YteaicgcfpcklkaaGreatDoorP1
import Derived.Lib.Bytealg
import Derived.Lib.ItoaNum
import Derived.Lib.SlicesCompact
import Derived.Laws.Externs
import Derived.Lib.IndexMore
import Derived.Lib.Split
import Derived.Lib.Join
import Derived.Lib.Strings
import Derived.Lib.ParseIntB
import Derived.Lib.Repeat
import Derived.Lib.Slices
import Derived.Lib.SlTrimSet
set_option linter.unusedSimpArgs false
set_option linter.unusedVariables false
open Go.IntKind (i64 u64)
noncomputable section
namespace Go.Proofs.YteaicgcfpcklkaaGreatDoor
open Go Go.RowKit
def AAF(P:Program)(vm:List Nat):ResultVar->vN->Bool
 | .tmp t,.t n=>vm[n]? == some t
 | .cell a t,.cell agg sz p=>vm[p]? == some a&&(kn P t==some agg&&UE P t==some sz)
 | _,_=>false
def dY(P:Program)(vm:List Nat):List ResultVar->List vN->Bool
 | [],[]=>true
 | a::r,b::q=>AAF P vm a b&&dY P vm r q
 | _,_=>false
def xA:List Nat->Bool
 | []=>true
 | a::r=>!r.contains a&&xA r
def Ab(P:Program)(f:FuncId)(fn:CN)(vm:List Nat):Bool :=
 match P.funcs[f]? with
 | none=>false
 | some fu=>!(fu.name == "runtime.NumGoroutine")&&(match fu.body with
  | none=>false
  | some c=>xA vm&&(vm.length==fn.nv&&(decide (fn.np<=fn.nv)&&(vm.take fn.np==List.range fn.np&&(vm.all (fun t=>decide (t<fu.ntmps)) &&
    (decide (fu.results.size<=4)&&(dY P vm fu.results.toList fn.res&&nY P fu.ntmps vm c fn.body)))))))
def ic(tmps:Array Value):ResultVar->Sem Value
 | .tmp t=>pure (tmps.getD t undef)
 | .cell a t=>do loadVar t (← asAddr (tmps.getD a undef))
section
variable {F Iow:Nat->Prop}{w0:World}{g0:Gh}{o0:CI}{g:Gh}{w w':World}{tmps:Array Value}{ds:List Deferred}{vm ss ss':List Nat}{s:St}{P:Program}{T:Il}
theorem vY(h:FR F g w tmps vm ss s){n t:Nat}(hc:vm[n]? = some t):SR (AW F g s.ob) w g s.ob (tmps.getD t undef) (s.vs.getD n .any):=by
 have hl:n<vm.length:=by
  rcases Nat.lt_or_ge n vm.length with h' | h'
  ·exact h'
  ·rw[List.getElem?_eq_none h'] at hc;cases hc
 have:=h.vs n hl;rw[gdE (l:=vm),hc] at this;exact this
theorem ABl(h:FR F g w tmps vm ss s){rv:ResultVar}{rs:vN}(hc:AAF P vm rv rs=true)(hok:(Nw s rs).ok=true):
  ∃ u,(ic tmps rv).run P w = .ok u w∧SR (AW F g s.ob) w g s.ob u (Nw s rs).v:=by
 unfold AAF at hc;split at hc
 ·rename_i t n;simp only[beq_iff_eq] at hc;exact⟨_,rfl,vY h hc⟩
 ·rename_i a t agg sz p;simp only[baT,beq_iff_eq] at hc;obtain⟨h1,h2,h3⟩:=hc;have hv:=vY h h1;simp only[Nw] at hok ⊢;revert hok;generalize s.vs.getD p .any=av at hv;intro hok;cases av<;>simp only[WI,bad] at hok<;>try (cases hok;done)
  rename_i k i off;obtain⟨ad,u,e,hr,hvv,_⟩:=jL (P:=P) h h2 h3 hv hok;refine⟨u,?_,hvv.toSR⟩;simp[ic,e,asAddr,hr]
 ·cases hc
theorem ig{fu:Func}{vs:List Value}(hsz:fu.results.size<=4)(hl:vs.length=fu.results.size)(h:∀ j rv,fu.results.toList[j]? = some rv->(ic tmps rv).run P w = .ok (vs.getD j undef) w):
  (results fu tmps).run P w = .ok (match vs with | [a]=>a|_=>.tuple vs.toArray) w:=by
 obtain⟨l,hl'⟩:∃ l,fu.results=l.toArray:=⟨fu.results.toList,by simp⟩;rw[hl'] at hsz hl h;simp only[List.size_toArray] at hsz hl
 have hun:results fu tmps=(do let vs ← fu.results.mapM (ic tmps);pure (if h:vs.size=1 then vs[0] else .tuple vs)):=by
  unfold results
  congr 1
 rw[hun,hl']
 match l,vs,hl,hsz,h with
 | [],[],_,_,_=>simp
 | [a],[x],_,_,h=>
  have h0:=h 0 a rfl;simp at h0;simp[h0]
 | [a,b],[x,y],_,_,h=>
  have h0:=h 0 a rfl;have h1:=h 1 b rfl;simp at h0 h1;simp[h0,h1]
 | [a,b,c],[x,y,z],_,_,h=>
  have h0:=h 0 a rfl;have h1:=h 1 b rfl;have h2:=h 2 c rfl;simp at h0 h1 h2;simp[h0,h1,h2]
 | [a,b,c,d],[x,y,z,u],_,_,h=>
  have h0:=h 0 a rfl;have h1:=h 1 b rfl;have h2:=h 2 c rfl;have h3:=h 3 d rfl;simp at h0 h1 h2 h3;simp[h0,h1,h2,h3]
 | _::_::_::_::_::_,_,_,hsz,_=>simp at hsz
theorem ij(h:FR F g w tmps vm ss s):∀ (rvs:List ResultVar) (rs:List vN),dY P vm rvs rs=true->((rs.map (Nw s)).all (·.ok))=true ->
  ∃ vs:List Value,vs.length=rvs.length∧vs.length=rs.length∧(∀ j rv,rvs[j]? = some rv->(ic tmps rv).run P w = .ok (vs.getD j undef) w) ∧
   ∀ j,j<rs.length->SR (AW F g s.ob) w g s.ob (vs.getD j undef) (((rs.map (Nw s)).map (·.v)).getD j .any)
 | [],[],_,_=>⟨[],rfl,rfl,fun j rv hj=>by simp at hj,fun j hj=>by simp at hj⟩
 | [],_::_,hc,_=>by simp[dY] at hc
 | _::_,[],hc,_=>by simp[dY] at hc
 | a::r,b::q,hc,hok=>by
  simp only[dY,baT] at hc;simp only[List.map_cons,List.all_cons,baT] at hok;obtain⟨u,h1,h2⟩:=ABl h hc.1 hok.1;obtain⟨vs,n1,n2,h3,h4⟩:=ij h r q hc.2 hok.2;refine⟨u::vs,by simp[n1],by simp[n2],fun j rv hj=>?_,fun j hj=>?_⟩
  ·cases j with
   | zero=>simp only[List.getElem?_cons_zero,Option.some.injEq] at hj;subst hj;exact h1
   | succ j=>exact h3 j rv (by simpa using hj)
  ·cases j with
   | zero=>exact h2
   | succ j=>simpa using h4 j (by simpa using hj)
theorem zl{S:Nat->Prop}{ob:CI}{v:Value}{a:AV}(h:SR S w g ob v a)(hok:(CP ob a).ok=true):vW S w g ob (a.key1.headD 0) v (CP ob a).v∧(HJ (CP ob a).v=true->a.key1=[a.key1.headD 0])∧(∀ cs,(CP ob a).v ≠ .tup cs):=by
 cases a<;>simp only[CP,bad,DB] at hok ⊢<;>try (cases hok;done)
 case own k=>
  obtain⟨hm,ho,hv⟩:=h;simp only[ho,gI,DB];exact⟨⟨ho,hv⟩,fun _=>rfl,fun cs e=>by cases e⟩
 case ref k i off=>
  obtain⟨hm,ho,hi,hv⟩:=h;simp only[ho,gH,ET,baT,beq_iff_eq] at hok ⊢;obtain⟨rfl,rfl,hl⟩:=hok;exact⟨⟨ho,hl,by rw[hv,Nat.zero_mul];rfl⟩,fun _=>rfl,fun cs e=>by cases e⟩
 case fn f a1 a2=>
  simp only[ET] at hok ⊢;refine⟨?_,fun e=>by simp[HJ] at e,fun cs e=>by cases e⟩;have hat:(AV.fn f a1 a2).atoms=true:=by simpa[AV.atoms,AV.cells,AV.atom] using hok
  exact h.atoms hat
 all_goals exact⟨h,fun e=>by simp[HJ] at e,fun cs e=>by cases e⟩
theorem gJ:∀ (l:List AV) (i j:Nat),Dg (l.flatMap AV.key1)=true->i<j->j<l.length->∀ k,k∈(l.getD i .any).key1->k∈(l.getD j .any).key1->False
 | [],_,_,_,_,h,_,_,_=>by simp at h
 | a::l,0,j+1,hd,_,hj,k,h1,h2=>by
  simp only[List.flatMap_cons] at hd;refine (Gz hd).2 k (by simpa using h1) (Cc (j:=j) (by simpa using hj) (by simpa using h2))
 | a::l,i+1,j+1,hd,hij,hj,k,h1,h2=>by
  simp only[List.flatMap_cons] at hd;exact gJ l i j (Gz hd).1 (by omega) (by simpa using hj) k (by simpa using h1) (by simpa using h2)
 | _::_,0,0,_,h,_,_,_,_=>by omega
 | _::_,_+1,0,_,h,_,_,_,_=>by omega
theorem Sv:∀ (ms:List Md) (i j:Nat),ms[j]? = some .io->AH (i+j)∈Hz ms i
 | [],_,j,h=>by simp at h
 | m::ms,i,0,h=>by
  simp only[List.getElem?_cons_zero,Option.some.injEq] at h;subst h;simp[Hz]
 | m::ms,i,j+1,h=>by
  have:=Sv ms (i+1) j (by simpa using h);rw[show i+(j+1)=i+1+j by omega];cases m<;>simp only[Hz,List.mem_cons]<;>first|exact this|exact .inr this
theorem em(ob:CI):∀ (ms:List Md) (i:Nat) (as:List AV) (j:Nat),ms[j]? = some .io->ms.length=as.length->(TE ob ms i as)[j]? = some (Np ob (i+j) (as.getD j .any) .io)
 | [],_,_,j,h,_=>by simp at h
 | _::_,_,[],_,_,h=>by simp at h
 | m::ms,i,a::as,0,h,_=>by
  simp only[List.getElem?_cons_zero,Option.some.injEq] at h;subst h;simp[TE]
 | m::ms,i,a::as,j+1,h,hl=>by
  have:=em ob ms (i+1) as j (by simpa using h) (by simpa using hl);rw[show i+(j+1)=i+1+j by omega];simpa[TE] using this
end
open Go Go.RowKit
theorem Kl{P:Program}{f:FuncId}{fu:Func}{c:Code}(hf:P.funcs[f]? = some fu)(hb:fu.body=some c)(hn:(fu.name == "runtime.NumGoroutine")=false)(args:Array Value)(w:World):
  (callFunc f args).run P w = .ok (.enter f args) w:=by
 have hn':¬ fu.name = "runtime.NumGoroutine":=by simpa using hn
 simp[callFunc,hf,hb,hn']
theorem jh{P:Program}{vm:List Nat}{np:Nat}(h:vm.take np=List.range np){i:Nat}(hi:i<np):vm.getD i 0=i∧i<vm.length:=by
 have hl:np<=vm.length:=by
  have:=congrArg List.length h;simp at this;omega
 refine⟨?_,by omega⟩;have:(vm.take np)[i]? = some i:=by rw[h];exact List.getElem?_range hi
 rw[List.getElem?_take] at this;simp only[hi,if_true] at this;rw[gdE,this];rfl
theorem cU{a b:AV}{r:List AV}:RK (a::b::r) = .tup (a::b::r):=rfl
theorem AES{F:Nat->Prop}{g0 g:Gh}{w w':World}{args:List AV}{modes:List Md}{tmps:Array Value}{vm:List Nat}{s:St}{ms:List Mk}{vs:List Value}
  (hsh:EO modes args=true) (h:FX F (fun b=>∃ k,KW g0 (BI 0 args) k∧g0.β k=b) w g0 (BI 0 args) g w' tmps vm [] s) (hn:vs.length=ms.length)
  (hv:∀ j,j<ms.length->SR (AW F g s.ob) w' g s.ob (vs.getD j undef) ((ms.map (·.v)).getD j .any)) (hok:(aD s modes args ms).ok=true) :
  bD F g0 args modes w (match vs with | [a]=>a|_=>.tuple vs.toArray) w' (aD s modes args ms).r (aD s modes args ms).outs g s.ob (fun i=>(((ms.map (·.v)).getD (i-1) .any).key1).headD 0):=by
 simp only[aD,baT] at hok ⊢;obtain⟨_,_,hgiven,hgive,hback⟩:=hok;obtain⟨hlen,hshg⟩:=NL _ _ hsh;generalize hrs:ms.map (·.v)=rs at hgiven hgive hv ⊢;have hrl:rs.length=ms.length:=by rw[← hrs];simp
 simp only[gG,baT] at hgiven;obtain⟨hdis,hap⟩:=hgiven
 have hone:∀ j,j<rs.length->vW (AW F g s.ob) w' g s.ob ((rs.getD j .any).key1.headD 0) (vs.getD j undef) (CP s.ob (rs.getD j .any)).v∧(HJ (CP s.ob (rs.getD j .any)).v=true->(rs.getD j .any).key1=[(rs.getD j .any).key1.headD 0]) ∧
   (∀ cs,(CP s.ob (rs.getD j .any)).v ≠ .tup cs):=by
  intro j hj;refine zl (hv j (by omega)) ?_;simp only[List.all_eq_true] at hgive;refine hgive _ (List.mem_map.2 ⟨rs.getD j .any,?_,rfl⟩);rw[gdE,geE hj];exact List.getElem_mem hj
 have hgl:∀ j,j<rs.length->(((rs.map (CP s.ob)).map (·.v))).getD j .any=(CP s.ob (rs.getD j .any)).v:=by
  intro j hj;simp[gdE,List.getElem?_map,geE hj]
 have hpos:∀ i,Ht (RK ((rs.map (CP s.ob)).map (·.v))) i->i-1<rs.length∧HJ (CP s.ob (rs.getD (i-1) .any)).v=true∧((rs.length=1∧i=0)∨(2<=rs.length∧1<=i)):=by
  intro i hi
  match rs,hone,hgl,hi with
  | [],_,_,hi=>simp[RK,Ht,HJ] at hi
  | [a],hone,_,hi=>
   have hnt:=(hone 0 (by simp)).2.2;simp only[List.map_cons,List.map_nil,RK,List.getD_cons_zero] at hi hnt;revert hi hnt;generalize hx:(CP s.ob a).v=x;intro hi hnt
   have:i=0∧HJ x=true:=by
    cases x<;>first|exact absurd rfl (hnt _)|exact hi
   obtain⟨rfl,hf⟩:=this;simp only[List.length_singleton,Nat.zero_sub,List.getD_cons_zero,hx];exact⟨by omega,hf,by simp⟩
  | a::b::r,_,hgl,hi=>
   simp only[List.map_cons,cU,Ht] at hi;obtain⟨j,rfl,hj,hf⟩:=hi;have hj':j<(a::b::r).length:=by simpa using hj
   have:=hgl j hj';simp only[List.map_cons] at this;rw[this] at hf;exact⟨by simpa using hj',by simpa using hf,.inr ⟨by simp,by omega⟩⟩
 refine⟨h.same,h.home,h.inj,h.nF,h.hio,?_,fun i j hi hj e=>?_,fun i j hi hj e=>?_,fun j hj=>?_⟩
 ·match rs,vs,hone,hgl,hrl,hn with
  | [],[],_,_,_,_=>exact VR.cv
  | [a],[v],hone,_,_,_=>
   have h1:=hone 0 (by simp);simp only[List.map_cons,List.map_nil,RK,List.getD_cons_zero] at h1 ⊢;obtain⟨h1,_,hnt⟩:=h1;revert h1 hnt;generalize (CP s.ob a).v=x;intro h1 hnt;cases x<;>first|exact absurd rfl (hnt _)|exact h1
  | a::b::r,v::u::vs,hone,hgl,hrl,hn=>
   simp only[List.map_cons,cU];refine⟨_,rfl,by simp at hrl hn ⊢;omega,fun j hj=>?_⟩;have hj':j<(a::b::r).length:=by simpa using hj
   have h1:=(hone j hj').1;have h2:=hgl j hj';simp only[List.map_cons] at h2;rw[h2,NH];exact h1
  | [],_::_,_,_,hrl,hn=>simp at hrl hn;omega
  | [_],[],_,_,hrl,hn=>simp at hrl hn;omega
  | [_],_::_::_,_,_,hrl,hn=>simp at hrl hn;omega
  | _::_::_,[],_,_,hrl,hn=>simp at hrl hn;omega
  | _::_::_,[_],_,_,hrl,hn=>simp at hrl hn;omega
 ·obtain⟨a1,a2,a3⟩:=hpos i hi;obtain⟨b1,b2,b3⟩:=hpos j hj;have k1:=(hone _ a1).2.1 a2;have k2:=(hone _ b1).2.1 b2;have e':(rs.getD (i-1) .any).key1.headD 0=(rs.getD (j-1) .any).key1.headD 0:=e;have m1:(rs.getD (i-1) .any).key1.headD 0∈(rs.getD (i-1) .any).key1:=by rw[k1];simp
  have m2:(rs.getD (i-1) .any).key1.headD 0∈(rs.getD (j-1) .any).key1:=by rw[e',k2];simp
  have:i-1=j-1:=by
   rcases Nat.lt_trichotomy (i-1) (j-1) with hlt|heq|hlt
   ·exact (gJ rs _ _ hdis hlt b1 _ m1 m2).elim
   ·exact heq
   ·exact (gJ rs _ _ hdis hlt a1 _ m2 m1).elim
  omega
 ·obtain⟨a1,a2,_⟩:=hpos i hi;have k1:=(hone _ a1).2.1 a2;have m1:(rs.getD (i-1) .any).key1.headD 0∈rs.flatMap AV.key1:=Cc a1 (by rw[k1];simp);have m2:=Sv modes 0 j hj;rw[Nat.zero_add] at m2;have e':(rs.getD (i-1) .any).key1.headD 0=AH j:=e;rw[← e'] at m2;exact ag hap m1 m2
 ·have hb:=em s.ob modes 0 args j hj hlen;rw[Nat.zero_add] at hb
  have hbok:(Np s.ob j (args.getD j .any) .io).ok=true:=by
   simp only[List.all_eq_true] at hback;exact hback _ (List.mem_of_getElem? hb)
  have hjl:j<args.length:=by
   rcases Nat.lt_or_ge j args.length with h' | h'
   ·exact h'
   ·rw[List.getElem?_eq_none (by omega)] at hj;cases hj
  have hfm:=(hshg j hjl).2.1 (by rw[gdE,hj];rfl);simp only[Np] at hbok hb;cases ho:AK (AH j) s.ob with
  | none=>rw[ho] at hbok;simp[ae,bad] at hbok
  | some hm=>
   rw[ho] at hbok hb;simp only[ae,ET,beq_iff_eq] at hbok hb;obtain⟨h0,p1,p2,p3,p4⟩:=h.par (AH j) hm (by unfold AH;omega) ho;rw[FV] at p1
   have hout:((TE s.ob modes 0 args).map (·.v)).getD j .any=(bif co (args.getD j .any) then .mem hm.sz hm.els 0 else .fresh hm.sz hm.els):=by
    rw[gdE,List.getElem?_map,hb];rfl
   rw[hout];revert hfm p1 hbok;generalize args.getD j .any=aj;intro hfm hbok p1;cases aj<;>simp only[Fk] at hfm<;>try (cases hfm;done)
   ·rename_i sz e0;have p1:=Option.some.inj p1;subst p1;have hbok:hm.els.length=e0.length:=hbok;have p2:hm.sz=sz:=p2;obtain⟨q1,q2⟩:=p4 hbok;exact⟨sz,e0,hm.els,.inl ⟨rfl,by simp[co,p2]⟩,hbok,by rw[← p2],q1,q2⟩
   ·rename_i sz e0 ix;have p1:=Option.some.inj p1;subst p1;have hbok:hm.els.length=e0.length:=hbok;have p2:hm.sz=sz:=p2;obtain⟨q1,q2⟩:=p4 hbok;exact⟨sz,e0,hm.els,.inr ⟨ix,0,rfl,by simp[co,p2]⟩,hbok,by rw[← p2],q1,q2⟩
theorem zn{P:Program}{T:Il}{f:FuncId}{fn:CN}{vm:List Nat}(hT:Ix P T)(hc:Ab P f fn vm=true)(L:Nat)(modes:List Md):AQ P f ⟨modes,false,fun args=>MD T L fn modes args⟩:=by
 unfold AQ;refine⟨fun e=>Bool.noConfusion e,fun F g0 w args vargs hsh hsz hfr hok=>⟨fun e=>Bool.noConfusion e,?_⟩⟩;simp only at hsh hok ⊢;unfold Ab at hc;split at hc
 ·cases hc
 rename_i fu hf;simp only[baT,Bool.not_eq_true'] at hc;obtain⟨hname,hc⟩:=hc;split at hc
 ·cases hc
 rename_i c hb;simp only[baT,beq_iff_eq,dtE,List.all_eq_true] at hc;obtain⟨hnd,hvl,hnp,htake,hfit,hr4,hres,hchk⟩:=hc;unfold CZ;rw[Kl hf hb hname];simp only[MD,kO,baT,fits,beq_iff_eq] at hok ⊢;obtain⟨⟨_,hal,hml⟩,hfin⟩:=hok
 have hnp2:fn.np<=fu.ntmps:=by
  rcases Nat.eq_zero_or_pos fn.np with e|e
  ·omega
  ·obtain⟨h1,h2⟩:=jh (P:=P) htake (i:=fn.np-1) (by omega);have:=hfit (vm.getD (fn.np-1) 0) (by rw[gdE,geE h2];exact List.getElem_mem h2);omega
 have hvs:vargs.size=fn.np:=by rw[hsz,hal]
 have htm:∀ i,i<fn.np->(vargs++Array.replicate (fu.ntmps-vargs.size) undef).getD i undef=vargs.getD i undef:=fun i hi=>by
  rw[ND,if_pos (by omega)]
 have hfx:FX F (fun b=>∃ k,KW g0 (BI 0 args) k∧g0.β k=b) w g0 (BI 0 args) g0 w (vargs++Array.replicate (fu.ntmps-vargs.size) undef) vm [] (Ul fn.nv args):=by
  refine⟨⟨hfr.home,hfr.inj,hfr.nF,hfr.fb,?_,rfl,fun i hi=>?_,fun i hi=>by simp at hi,fun t ht=>?_,hfr.tab⟩,AR.refl _ _,fun k hk=>.inr ⟨k,hk,rfl⟩,fun b hb ⟨k,hk,e⟩=>hfr.nF k hk (by rw[e];exact hb),fun k hm _ hg=>⟨hm,hg,rfl,Nat.le_refl _,fun _=>⟨rfl,rfl⟩⟩⟩
  ·simp only[Ul,List.length_append,It,List.length_replicate];omega
  ·simp only[Ul];rw[Gy,It]
   by_cases hlt:i<args.length
   ·rw[if_pos hlt];have h1:=hfr.vs i (by simpa using hlt);have e1:(List.range args.length).getD i 0=i:=by rw[gdE,List.getElem?_range hlt];rfl
    rw[e1] at h1;rw[(jh (P:=P) htake (by omega)).1,htm i (by omega)];exact h1
   ·rw[if_neg hlt]
    have:(List.replicate (fn.nv-args.length) AV.any).getD (i-args.length) .any = .any:=by
     rw[gdE,List.getElem?_replicate];split<;>rfl
    rw[this];exact SR.any
  ·rcases ht with ht|ht
   ·have:=hfit t ht;simp;omega
   ·simp at ht
 have hN:(vargs++Array.replicate (fu.ntmps-vargs.size) undef).size=fu.ntmps:=by simp;omega
 refine calls_of_wp hf hb ?_;generalize hE:Aq T L fn.body (Ul fn.nv args)=r at hfin
 have hrok:r.2.ok=true:=by
  obtain⟨e,s'⟩:=r;cases e<;>simp only[Jh,aD,Rs.bad,baT] at hfin
  ·exact hfin.1
  ·cases hfin
  ·exact hfin.1
 refine IW (T:=T) (L:=L) (ds:=[]) hT trivial c fn.body hchk hfx hN (by rw[hE];exact hrok) fun tmps' w' g' hn' hfx'=>?_
 rw[hE] at hfx' ⊢
 have done:∀ s',r.2=s'->Jh fn modes args r=aD s' modes args (fn.res.map (Nw s'))->({ tmps:=tmps',defers:=[] }:Act).defers=[]∧∃ v,(results fu tmps').run P w' = .ok v w' ∧
   ∃ v' g ob κ,Ending.returned v=Ending.returned v'∧bD F g0 args modes w v' w' (Jh fn modes args r).r (Jh fn modes args r).outs g ob κ:=by
  intro s' e1 e2;rw[e1] at hfx';rw[e2] at hfin ⊢
  have hallok:((fn.res.map (Nw s')).all (·.ok))=true:=by
   simp only[aD,baT] at hfin;exact hfin.2.1
  obtain⟨vs,n1,n2,hrun,hrel⟩:=ij (P:=P) hfx'.toFR fu.results.toList fn.res hres hallok;have hB:=AES (ms:=fn.res.map (Nw s')) (vs:=vs) hsh hfx' (by simpa using n2) (fun j hj=>hrel j (by simpa using hj)) hfin;exact⟨rfl,_,ig hr4 (by simpa using n1) hrun,_,_,_,_,rfl,hB⟩
 obtain⟨e,s'⟩:=r;cases e
 ·exact done s' rfl rfl
 ·simp[Jh,Rs.bad] at hfin
 ·exact done s' rfl rfl
theorem cg{f f':St->Fw}{keep ot rt:List Bool}(hf:∀ s,(f s).2.ok=true->f' s=f s)(hfm:∀ s,(f s).2.ok=true->s.ok=true):∀ n m s,n<=m->(CV f keep ot rt n s).2.ok=true->CV f' keep ot rt m s=CV f keep ot rt n s
 | 0,_,s,_,h=>by simp[CV,fail] at h
 | n+1,0,s,hm,_=>by omega
 | n+1,m+1,s,hm,h=>by
  simp only[CV] at h ⊢
  have hok:(f s).2.ok=true:=by
   revert h;generalize f s=r;intro h;obtain⟨e,s'⟩:=r;cases e
   ·simp only[Ic,IZ] at h;have h3:=RS hfm n _ h;rwa [Hx] at h3
   ·simpa only[Ic,IZ,Hx] using h
   ·simpa only[Ic,IZ,Hx] using h
  rw[hf s hok];revert h;generalize f s=r;intro h;obtain⟨e,s'⟩:=r;cases e
  ·simp only[Ic,IZ] at h ⊢;exact cg hf hfm n m _ (by omega) h
  ·rfl
  ·rfl
theorem Fe{T:Il}{L M:Nat}(hLM:L<=M):∀ (ir:IR) {s:St},(Aq T L ir s).2.ok=true->Aq T M ir s=Aq T L ir s
 | .skip,_,_=>rfl
 | .region _ is,s,_=>rfl
 | .test _ is c a b,s,h=>by
  simp only[Aq,Qq] at h ⊢;cases hv:rd (Ef T is s) c<;>rw[hv] at h<;>simp only[LW,fail] at h ⊢
  split at h
  ·rename_i hb;rw[if_pos hb,if_pos hb];exact Fe hLM a h
  ·rename_i hb;rw[if_neg hb,if_neg hb];exact Fe hLM b h
 | .anyo k is alts .skip,s,h=>rfl
 | .anyo k is alts (.cond c a b),s,h=>by
  simp only[Aq,Qq] at h ⊢;cases hv:rd (TG T k is alts s) c<;>rw[hv] at h<;>simp only[LW,fail] at h ⊢
  split at h
  ·rename_i hb;rw[if_pos hb,if_pos hb];exact Fe hLM a h
  ·rename_i hb;rw[if_neg hb,if_neg hb];exact Fe hLM b h
 | .anyo k is alts (.region _ _),s,h=>rfl
 | .anyo k is alts (.test _ _ _ _ _),s,h=>rfl
 | .anyo k is alts (.anyo _ _ _ _),s,h=>rfl
 | .anyo k is alts (.seq _ _),s,h=>rfl
 | .anyo k is alts (.block _ _),s,h=>rfl
 | .anyo k is alts (.loop _ _ _ _),s,h=>rfl
 | .anyo k is alts (.mask _ _),s,h=>rfl
 | .anyo k is alts (.exit _),s,h=>rfl
 | .anyo k is alts .ret,s,h=>rfl
 | .seq a b,s,h=>by
  simp only[Aq] at h ⊢
  have hok:(Aq T L a s).2.ok=true:=by
   revert h;generalize Aq T L a s=r;intro h;obtain⟨e,s'⟩:=r;cases e
   ·have h3:=DV b h;exact h3
   ·exact h
   ·exact h
  rw[Fe hLM a hok];revert h;generalize Aq T L a s=r;intro h;obtain⟨e,s'⟩:=r;cases e
  ·exact Fe hLM b h
  ·rfl
  ·rfl
 | .cond c a b,s,h=>by
  simp only[Aq] at h ⊢;cases hv:rd s c<;>rw[hv] at h<;>simp only[LW,fail] at h ⊢
  split at h
  ·rename_i hb;rw[if_pos hb,if_pos hb];exact Fe hLM a h
  ·rename_i hb;rw[if_neg hb,if_neg hb];exact Fe hLM b h
 | .block id a,s,h=>by
  simp only[Aq] at h ⊢
  have hok:(Aq T L a s).2.ok=true:=by
   revert h;generalize Aq T L a s=r;intro h;obtain⟨e,s'⟩:=r;cases e
   ·exact h
   ·simp only[Oe] at h;rw[AO] at h;split at h<;>exact h
   ·exact h
  rw[Fe hLM a hok]
 | .loop keep out rt a,s,h=>by
  simp only[Aq] at h ⊢;exact cg (f:=Aq T L a) (f':=Aq T M a) (fun s hs=>Fe hLM a hs) (fun s hs=>DV a hs) L M (keepS keep s) hLM h
 | .mask m a,s,h=>by
  simp only[Aq] at h ⊢;rw[Fe hLM a (Ue h)]
 | .exit _,_,_=>rfl
 | .ret,_,_=>rfl
theorem tr{fn:CN}{modes:List Md}{args:List AV}{r:Fw}(h:(Jh fn modes args r).ok=true):r.2.ok=true:=by
 obtain⟨e,s⟩:=r;cases e<;>simp only[Jh,aD,Rs.bad,baT] at h
 ·exact h.1
 ·cases h
 ·exact h.1
theorem cJ{T:Il}{L M:Nat}(hLM:L<=M){fn:CN}{modes:List Md}{args:List AV}(h:(MD T L fn modes args).ok=true):MD T M fn modes args=MD T L fn modes args:=by
 simp only[MD,kO,baT] at h ⊢;rw[Fe hLM fn.body (tr h.2)]
def fM (T:Il) (fn:CN) (modes:List Md) (args:List AV):Rs :=
 MD T (Classical.epsilon fun L=>(MD T L fn modes args).ok=true) fn modes args
theorem fL{T:Il}{L:Nat}{fn:CN}{modes:List Md}{args:List AV}{r:Rs}(h:MD T L fn modes args=r)(hok:r.ok=true):fM T fn modes args=r:=by
 have h0:(MD T L fn modes args).ok=true:=by rw[h];exact hok
 have h1:(fM T fn modes args).ok=true:=Classical.epsilon_spec (p:=fun L=>(MD T L fn modes args).ok=true) ⟨L,h0⟩;unfold fM at h1 ⊢;generalize (Classical.epsilon fun L=>(MD T L fn modes args).ok=true)=M at h1 ⊢;rw[← h];rcases Nat.le_total L M with hle|hle
 ·exact cJ hle h0
 ·exact (cJ hle h1).symm
def AP:List (Nat×Ak)->Il
 | [],_=>none
 | p::r,f=>bif f==p.1 then some p.2 else AP r f
theorem LN{P:Program}:∀ {l:List (Nat×Ak)},(∀ p,p∈l->AQ P p.1 p.2)->Ix P (AP l)
 | [],_,f,C,h=>by simp[AP] at h
 | p::r,hl,f,C,h=>by
  simp only[AP,AO,beq_iff_eq] at h;split at h
  ·rename_i e;simp only[Option.some.injEq] at h;subst h;subst e;exact hl p (by simp)
  ·exact LN (fun q hq=>hl q (by simp[hq])) f C h
theorem AL{P:Program}:∀ p,p∈([]:List (Nat×Ak))->AQ P p.1 p.2:=fun p h=>by simp at h
theorem AF{P:Program}{f:Nat}{C:Ak}{l:List (Nat×Ak)}(h:AQ P f C)(hl:∀ p,p∈l->AQ P p.1 p.2):∀ p,p∈(f,C)::l->AQ P p.1 p.2:=by
 intro p hp;rcases List.mem_cons.1 hp with e|hp
 ·subst e;exact h
 ·exact hl p hp
def AIz(q:Rs):Rs:=⟨q.ok&&Do q.r,q.r,q.outs⟩
def bH (l:List (Nat×Ak)) (fn:CN) (modes:List Md):Ak:=⟨modes,false,fM (AP l) fn modes⟩
def DN (l:List (Nat×Ak)) (fn:CN) (modes:List Md):Ak:=⟨modes,true,fun args=>AIz (fM (AP l) fn modes args)⟩
def AJU(modes:List Md):Ak:=⟨modes,false,fun _=>Rs.bad⟩
theorem ny{P:Program}{f:FuncId}{modes:List Md}:AQ P f (AJU modes):=by
 unfold AQ;exact⟨fun e=>Bool.noConfusion e,fun F g0 w args vargs hsh hsz hfr hok=>by simp[AJU,Rs.bad] at hok⟩
theorem ANd{l:List (Nat×Ak)}{fn:CN}{modes:List Md}{args:List AV}(L:Nat){r:AV}{outs:List AV}(h:MD (AP l) L fn modes args=⟨true,r,outs⟩):(bH l fn modes).F args=⟨true,r,outs⟩:=fL h rfl
theorem ANe{l:List (Nat×Ak)}{fn:CN}{modes:List Md}{args:List AV}(L:Nat){r:AV}{outs:List AV}(h:MD (AP l) L fn modes args=⟨true,r,outs⟩)(hf:Do r=true):(DN l fn modes).F args=⟨true,r,outs⟩:=by
 simp only[DN,AIz];rw[fL h rfl];simp[hf]
theorem Ug{P:Program}{T:Il}{f:FuncId}{fn:CN}{vm:List Nat}(hT:Ix P T)(hc:Ab P f fn vm=true)(modes:List Md):AQ P f ⟨modes,false,fM T fn modes⟩:=by
 unfold AQ;refine⟨fun e=>Bool.noConfusion e,fun F g0 w args vargs hsh hsz hfr hok=>?_⟩;exact (zn hT hc (Classical.epsilon fun L=>(MD T L fn modes args).ok=true) modes).2 F g0 w args vargs hsh hsz hfr hok
theorem DH{P:Program}{l:List (Nat×Ak)}{f:FuncId}{fn:CN}{vm:List Nat}(modes:List Md)(hl:∀ p,p∈l->AQ P p.1 p.2)(hc:Ab P f fn vm=true):AQ P f (bH l fn modes):=Ug (LN hl) hc modes
theorem AI{P:Program}{l:List (Nat×Ak)}{f:FuncId}{fn:CN}{vm:List Nat}(modes:List Md)(hm:ABr modes=true)(hl:∀ p,p∈l->AQ P p.1 p.2)(hc:Ab P f fn vm=true):AQ P f (DN l fn modes):=by
 have h:=Ug (LN hl) hc modes;unfold AQ at h ⊢;refine⟨fun _=>hm,fun F g0 w args vargs hsh hsz hfr hok=>?_⟩;simp only[DN,AIz,baT] at hok ⊢;exact⟨fun _=>hok.2,(h.2 F g0 w args vargs hsh hsz hfr hok.1).2⟩
def mkZ (l:List (Nat×Ak)) (fn:CN) (modes:List Md):Ak:=⟨modes,false,fun args=>⟨(fM (AP l) fn modes args).ok,Ny (fM (AP l) fn modes args).r,(fM (AP l) fn modes args).outs⟩⟩
theorem AFQ{l:List (Nat×Ak)}{fn:CN}{modes:List Md}{args:List AV}{r:AV}{outs:List AV}(h:∃ L0,∀ L,L0<=L->ANu (MD (AP l) L fn modes args)=⟨true,r,outs⟩):(mkZ l fn modes).F args=⟨true,r,outs⟩:=by
 obtain⟨L,h⟩:=h;have h:=h L (Nat.le_refl _);have hok:(MD (AP l) L fn modes args).ok=true:=congrArg Rs.ok h;simp only[mkZ];rw[fL (r:=MD (AP l) L fn modes args) rfl hok];exact h
def GE(p:Nat->Bool):CI->CI
 | []=>[]
 | q::r=>bif p q.1 then GE p r else q::GE p r
theorem RM(p:Nat->Bool)(k:Nat):∀ ob:CI,AK k (GE p ob)=if p k=true then none else AK k ob
 | []=>by simp[GE,AK]
 | q::r=>by
  have ih:=RM p k r
  by_cases hq:p q.1=true
  ·by_cases hk:p k=true
   ·simp[GE,AO,hq,hk,ih]
   ·have hne:q.1≠k:=fun e=>hk (e▸hq)
    simp[GE,AK,AO,hq,hk,ih,hne]
  ·by_cases hk:p k=true
   ·have hne:q.1≠k:=fun e=>hq (e▸hk)
    simp[GE,AK,AO,hq,hk,ih,hne]
   ·simp[GE,AK,AO,hq,hk,ih]
theorem tl(a:AV):HJ (Vs a)=false:=by cases a<;>rfl
theorem Ng{r:AV}{i:Nat}(h:Ht (Ny r) i):False:=by
 cases r
 case tup cs=>
  obtain⟨j,_,hj,hf⟩:=h;have:(cs.map Vs).getD j .any=Vs (cs.getD j .any):=Bg _ rfl _ _;rw[this,tl] at hf;cases hf
 all_goals
  simp only[Ny,Vs,Ht,HJ] at h;first|exact absurd h.2 Bool.false_ne_true|(simp at h)
open Classical in
theorem aZ{F:Nat->Prop}{g0 g:Gh}{w w':World}{args:List AV}{modes:List Md}{v:Value}{r:AV}{outs:List AV}{ob:CI}{κ:Nat->Nat}
  (B:bD F g0 args modes w v w' r outs g ob κ):bD F g0 args modes w v w' (Ny r) outs g (GE (fun k=>decide (∃ i,Ht r i∧κ i=k)) ob) κ:=by
 have hget:∀ k,AK k (GE (fun k=>decide (∃ i,Ht r i∧κ i=k)) ob)=if (∃ i,Ht r i∧κ i=k) then none else AK k ob:=by
  intro k;rw[RM];simp
 have hsub:∀ k h,AK k (GE (fun k=>decide (∃ i,Ht r i∧κ i=k)) ob)=some h->AK k ob=some h∧¬ ∃ i,Ht r i∧κ i=k:=by
  intro k h hg;rw[hget] at hg;split at hg
  ·cases hg
  ·rename_i hn;exact⟨hg,hn⟩
 have hin:∀ k,Ih (GE (fun k=>decide (∃ i,Ht r i∧κ i=k)) ob) k->Ih ob k:=fun k ⟨h,hg⟩=>⟨h,(hsub k h hg).1⟩
 have hset:∀ b,AW F g (GE (fun k=>decide (∃ i,Ht r i∧κ i=k)) ob) b->AW F g ob b:=fun b hb=>Gn hin hb
 have one:∀ {i:Nat} {u:Value} {a:AV},(HJ a=true->Ht r i)->vW (AW F g ob) w' g ob (κ i) u a->vW (AW F g (GE (fun k=>decide (∃ i,Ht r i∧κ i=k)) ob)) w' g (GE (fun k=>decide (∃ i,Ht r i∧κ i=k)) ob) (κ i) u (Vs a):=by
  intro i u a hf hu
  have blk:∀ {sz:Nat} {els:List AV},Ht r i->AK (κ i) ob=some ⟨sz,els⟩->VR (AW F g (GE (fun k=>decide (∃ i,Ht r i∧κ i=k)) ob)) w' (.slice (some ⟨g.β (κ i),0,none⟩) els.length (g.cap (κ i))) (.sl sz els)∧(g.cap (κ i)=0->VR (AW F g (GE (fun k=>decide (∃ i,Ht r i∧κ i=k)) ob)) w' (.slice none 0 0) (.sl sz els))∧∀ i0 off,i0<els.length->VR (AW F g (GE (fun k=>decide (∃ i,Ht r i∧κ i=k)) ob)) w' (.pointer (some ⟨g.β (κ i),i0*sz+off,none⟩)) (.ptr sz els i0 off):=fun {sz els} hfi hg=>by
   have hH:=B.home (κ i) ⟨sz,els⟩ hg;obtain⟨rr,hcell⟩:=hH.cell
   exact hH.sl (S':=AW F g (GE (fun k=>decide (∃ i,Ht r i∧κ i=k)) ob)) hcell hset fun hp c=>by
    have hl:KW g ob (κ i):=⟨⟨_,hg⟩,hp⟩;rcases c with c|⟨k,hk,e⟩
    ·exact B.nF _ hl c
    ·obtain⟨⟨h',hg'⟩,hp'⟩:=hk;obtain⟨h1,h2⟩:=hsub k h' hg';have:=B.inj k (κ i) ⟨⟨h',h1⟩,hp'⟩ hl e;exact h2 ⟨i,hfi,this.symm⟩
  cases a
  case fresh sz els=>
   obtain⟨q1,q2,_⟩:=blk (hf rfl) hu.1;show VR _ _ _ _;rcases hu.2 with e|⟨e0,e⟩
   ·rw[e];exact q1
   ·rw[e];exact q2 e0
  case mem sz els ix=>
   obtain⟨_,_,q3⟩:=blk (hf rfl) hu.1;obtain⟨_,hl1,e⟩:=hu;have:=q3 0 0 (by omega);rw[Nat.zero_mul,Nat.zero_add] at this;rw[e];exact this
  all_goals exact VR.mono (AR.refl _ _) (fun b _ c=>hset b c) hu
 refine⟨B.same,fun k h hg=>(B.home k h (hsub k h hg).1).mono (AR.refl _ _) (fun _=>rfl) fun b _ c=>hset b c,fun k k' a b=>B.inj k k' ⟨hin k a.1,a.2⟩ ⟨hin k' b.1,b.2⟩,fun k a=>B.nF k ⟨hin k a.1,a.2⟩,fun k a=>B.hio k ⟨hin k a.1,a.2⟩,?_,
  fun i j hi _ _=>(Ng hi).elim,fun i j hi _ _=>(Ng hi).elim,fun j hj=>?_⟩
 ·have hval:=B.val;cases r
  case tup cs=>
   obtain⟨vs,rfl,hn,hall⟩:=hval;refine⟨vs,rfl,by simpa using hn,fun j hj=>?_⟩;have hj':j<cs.length:=by simpa using hj
   have e:(cs.map Vs).getD j .any=Vs (cs.getD j .any):=Bg _ rfl _ _;rw[e];exact one (fun hf=>⟨j,rfl,hj',hf⟩) (hall j hj')
  all_goals exact one (fun hf=>⟨rfl,hf⟩) hval
 ·obtain⟨sz,e0,els,h1,h2,h3,h4⟩:=B.out j hj;refine⟨sz,e0,els,h1,h2,?_,h4⟩;rw[hget,if_neg]
  ·exact h3
  ·rintro⟨i,hi,e⟩;exact B.κio i j hi hj e
theorem cW{P:Program}{l:List (Nat×Ak)}{f:FuncId}{fn:CN}{vm:List Nat}(modes:List Md)(hl:∀ p,p∈l->AQ P p.1 p.2)(hc:Ab P f fn vm=true):AQ P f (mkZ l fn modes):=by
 have h:=Ug (LN hl) hc modes;unfold AQ at h ⊢;refine⟨fun e=>Bool.noConfusion e,fun F g0 w args vargs hsh hsz hfr hok=>?_⟩;simp only[mkZ] at hok ⊢;refine⟨fun e=>Bool.noConfusion e,((h.2 F g0 w args vargs hsh hsz hfr hok).2).mono fun e w' he=>?_⟩;obtain⟨v,g,ob,κ,he,B⟩:=he;exact⟨v,g,_,κ,he,aZ B⟩
theorem Uh{b:Bool}{P:Program}{f:FuncId}{C:Ak}{fu:Func}{c:Code}(hC:AQ P f C)(hf:P.funcs[f]? = some fu)(hb:fu.body=some c)(hn:(fu.name == "runtime.NumGoroutine")=false)
  {args:List AV} {vargs:Array Value} {w:World} (hsz:vargs.size=args.length) (hsh:EO C.modes args=true) (hbor:args.all (fun a=>!Fk a)=true) (hv:∀ j,j<args.length->VR (fun _=>False) w (vargs.getD j undef) (args.getD j .any)) (hgt:GT (fun _=>False) w) {outs:List AV}
  (hF:C.F args=⟨true,.bool b,outs⟩):Calls P f vargs w fun e w'=>e = .returned (.bool b)∧AR (fun _=>False) w w':=by
 have hnofm:∀ j,Fk (args.getD j .any)=false:=by
  intro j;simp only[List.all_eq_true,Bool.not_eq_true'] at hbor;rw[gdE];cases hj:args[j]? with
  | none=>rfl
  | some a=>exact hbor a (List.mem_of_getElem? hj)
 have hob:∀ k,AK k (BI 0 args)=none:=by
  intro k;cases hg:AK k (BI 0 args) with
  | none=>rfl
  | some hm=>
   obtain⟨j,_,hf⟩:=LV hg;have:=hnofm j;revert hf this;generalize args.getD j .any=x;intro hf this;cases x<;>simp[Gk,Fk] at hf this
 have hno:∀ k,¬ Ih (BI 0 args) k:=fun k ⟨hm,hg⟩=>by rw[hob k] at hg;cases hg
 have hfr:FR (fun _=>False) ⟨fun _=>0,fun _=>0⟩ w vargs (List.range args.length) [] (LZ args):=by
  refine⟨fun k hm hg=>(hno k ⟨hm,hg⟩).elim,fun k _ hk=>(hno k hk.1).elim,fun k hk=>(hno k hk.1).elim,fun b hb=>hb.elim,by simp[LZ,It],rfl,fun j hj=>?_,fun j hj=>by simp at hj,fun t ht=>?_,hgt.mono (AR.refl _ _) fun b _ hb=>?_⟩
  ·have hj':j<args.length:=by simpa using hj
   have e1:(List.range args.length).getD j 0=j:=by rw[gdE,List.getElem?_range hj'];rfl
   rw[e1];simp only[LZ];rw[Jv _ 0 j hj',Nat.zero_add]
   have e2:Zs j (args.getD j .any)=args.getD j .any:=by
    have:=hnofm j;revert this;generalize args.getD j .any=x;intro this;cases x<;>first|rfl|(simp[Fk] at this)
   rw[e2];refine ((hv j hj').mono (AR.refl _ _) fun b _ hb=>?_).toSR;rcases hb with hb|⟨k,hk,_⟩
   ·exact hb
   ·exact hno k hk.1
  ·rcases ht with ht|ht
   ·rw[hsz];simpa using ht
   ·simp at ht
  ·rcases hb with hb|⟨k,hk,_⟩
   ·exact hb
   ·exact hno k hk.1
 have h:=(hC.2 _ _ w args vargs hsh hsz hfr (by rw[hF])).2;rw[hF] at h;unfold CZ at h;rw[Kl hf hb hn] at h;refine Calls.mono h fun e w' he=>?_
 obtain⟨v,g,ob,κ,rfl,B⟩:=he;have hval:=B.val;simp only[RV,vW] at hval;refine⟨?_,B.same.mono fun b _ ⟨k,hk,_⟩=>(hno k hk.1).elim⟩;cases hval
 rfl
theorem yc{P:Program}{f:FuncId}{C:Ak}{fu:Func}{c:Code}(hC:AQ P f C)(hf:P.funcs[f]? = some fu)(hb:fu.body=some c)(hn:(fu.name == "runtime.NumGoroutine")=false)
  {args:List AV} {vargs:Array Value} {w:World} (hsz:vargs.size=args.length) (hsh:EO C.modes args=true) (hbor:args.all (fun a=>!Fk a)=true) (hv:∀ j,j<args.length->VR (fun _=>False) w (vargs.getD j undef) (args.getD j .any)) (hgt:GT (fun _=>False) w) {outs:List AV}
  (hF:C.F args=⟨true,.bool true,outs⟩):Calls P f vargs w fun e w'=>e = .returned (.bool true)∧AR (fun _=>False) w w' :=
 Uh hC hf hb hn hsz hsh hbor hv hgt hF
end Go.Proofs.YteaicgcfpcklkaaGreatDoor
namespace Go.Proofs.YteaicgcfpcklkaaGreatDoor
open Go Go.RowKit Go.ChangeShapes Go.WideShapes Go.ChangeAt
theorem AR.kept{w w':World}(h:AR (fun _=>False) w w')(may:MemPlace->Prop):w.keptBut w' may:=by
 refine⟨h.os,h.output,fun i hi=>?_⟩;rw[h.block i hi fun c=>c];cases hb:w.heap[i]? with
 | none=>rfl
 | some o=>cases o<;>first|exact⟨rfl,rfl,rfl,fun _ _=>rfl⟩|exact .inr ⟨rfl,rfl⟩|rfl
theorem AR.frozen{w w':World}(h:AR (fun _=>False) w w'){b off:Nat}(hb:b<w.heap.size):w'.frozen? ⟨b,off,none⟩=w.frozen? ⟨b,off,none⟩:=by
 simp only[World.frozen?,h.block b hb fun c=>c]
section
variable {P:Program}{H:Type}{enc:TypeId×Value->H}
theorem qT{f:Func}{s:ChangeSpec}{apart fresh handsOn again:Bool}{W W':World}{args:Array Value}{v:Value}{ds gs:List (DataW H)}{before pa pv:List MemPlace}
  (hW:DataW.Whole enc P f.params.toList s.vars apart W args.toList ds gs before) (hs:AR (fun _=>False) W W')
  (hres:∀ (b:Nat) (sp:Nat->Bool) (hd:Bool),DataW.TrodAll enc P W' b sp hd f.resultTypes.toList (v.resultList f.resultTypes.size) (s.fn H (ds++gs)).results [])
  (hargs:∀ sp:Nat->Bool,(∀ p∈before,sp p.block=true)->DataW.TrodAll enc P W' 0 sp true f.params.toList args.toList (s.fn H (ds++gs)).args pa)
  (hvars:∀ sp:Nat->Bool,(∀ p∈before,sp p.block=true)->DataW.TrodVars enc P W' sp s.vars (s.fn H (ds++gs)).vars pv)
  (hps:before=pa++pv)
  (hok:∀ (j:Nat) (t:TypeId) (r:Value),f.resultTypes[j]? = some t->(v.resultList f.resultTypes.size)[j]? = some r->Value.okWide P W' .any 0 t r) :
  s.post enc P f apart fresh handsOn again W args v W':=by
 have hlt:=hW.lt;have inold:∀ p∈before,(fun b=>decide (b<W.heap.size)) p.block=true:=fun p hp=>by simpa using hlt p hp
 have whole:=hW;obtain⟨_,_,_,_,_,hz,hn⟩:=whole;subst hps;refine⟨ds,gs,pa++pv,[],pa,pv,hW,hres _ _ _,hargs _ inold,hvars _ inold,hs.kept _,fun _=>⟨hok,_,_,([]++pa)++pv,⟨[]++pa,pv,trodAll_append (hargs _ fun _ _=>rfl) (hres _ _ _),hvars _ fun _ _=>rfl,rfl,fun b off hp=>?_,fun ha=>by simpa using hn ha⟩,fun p hp _=>by simpa using hp⟩⟩;have hp':MemPlace.cell b off∈pa++pv:=by simpa using hp
 have hlb:b<W.heap.size:=hlt _ hp';rw[hs.frozen hlb];exact hz b off hp'
end
end Go.Proofs.YteaicgcfpcklkaaGreatDoor
namespace Go.Proofs.YteaicgcfpcklkaaGreatDoor
open Go
theorem qB{c:Prop}[Decidable c](x y:Fw)(k:St->Fw):IZ k (if c then x else y)=if c then IZ k x else IZ k y:=by split<;>rfl
theorem tY{c:Prop}[Decidable c](id:Nat)(x y:Fw):Oe id (if c then x else y)=if c then Oe id x else Oe id y:=by split<;>rfl
theorem qf{c:Prop}[Decidable c](a b d:List Bool)(x y:Fw):Ic a b d (if c then x else y)=if c then Ic a b d x else Ic a b d y:=by split<;>rfl
theorem qg{c:Prop}[Decidable c](m:List Bool)(x y:Fw):RP m (if c then x else y)=if c then RP m x else RP m y:=by split<;>rfl
theorem nO{c:Prop}[Decidable c](fn:CN)(m:List Md)(a:List AV)(x y:Fw):Jh fn m a (if c then x else y)=if c then Jh fn m a x else Jh fn m a y:=by split<;>rfl
theorem AAE{c:Prop}[Decidable c](b:Bool)(x y:Rs):kO b (if c then x else y)=if c then kO b x else kO b y:=by split<;>rfl
theorem tz(x:Rs):kO true x=x:=rfl
theorem imp1(a b:Bool):(!(a&&b)||a)=true:=by cases a<;>cases b<;>rfl
theorem imp2(a:Bool):(!a||a)=true:=by cases a<;>rfl
theorem imp3(a b:Bool):(!(a&&b)||b)=true:=by cases a<;>cases b<;>rfl
theorem imp4(a b c:Bool):(!(a&&b&&c)||a)=true:=by cases a<;>cases b<;>cases c<;>rfl
theorem imp5(a b c:Bool):(!(a&&(b&&c))||b)=true:=by cases a<;>cases b<;>cases c<;>rfl
theorem vJ(a:Bool):(a==true)=a:=by cases a<;>rfl
theorem nx(a:Bool):(a==false) = !a:=by cases a<;>rfl
theorem AJG(a b:Bool):(bif a then b else false)=(a&&b):=by cases a<;>rfl
theorem AJF(a b:Bool):(bif a then true else b)=(a||b):=by cases a<;>rfl
theorem Vn{α:Type}(a b:α):(bif true then a else b)=a:=rfl
theorem US{α:Type}(a b:α):(bif false then a else b)=b:=rfl
attribute [go_sem] qB tY qf qg nO AAE tz imp1 imp2 imp3 imp4 imp5 vJ nx AJG AJF Vn US
attribute [go_sem] iJ Rs.bad AV.names AV.kill AV.atoms bad DB ET FQ Dv Bd iT cut Vx Pj aR clear QC DA fail apart killAll Qp NB Iu CY Qs JB Ls NP Yd Jm ME nH Cp drop keepB Ux canonK kQ keepS UZ slots pq TG Qq AH Ul ANu gG aD fits kO MD
attribute [go_sem] AV.cells.eq_1 AV.cells.eq_2 AV.cells.eq_3 AV.cells.eq_4 AV.cells.eq_5 AV.cells.eq_6 AV.cells.eq_7 AV.cells.eq_8 AV.cells.eq_9 AV.cells.eq_10 AV.cells.eq_11 AV.cells.eq_12 AV.cells.eq_13 AV.cells.eq_14 AV.cells.eq_15 AV.cells.eq_16
attribute [go_sem] AV.isAgg.eq_1 AV.isAgg.eq_2
attribute [go_sem] rd.eq_1 rd.eq_2 rd.eq_3
attribute [go_sem] AK.eq_1 AK.eq_2
attribute [go_sem] CR.eq_1 CR.eq_2
attribute [go_sem] JU.eq_1 JU.eq_2
attribute [go_sem] AV.key1.eq_1 AV.key1.eq_2 AV.key1.eq_3 AV.key1.eq_4 AV.key1.eq_5 AV.key1.eq_6 AV.key1.eq_7 AV.key1.eq_8 AV.key1.eq_9 AV.key1.eq_10 AV.key1.eq_11 AV.key1.eq_12 AV.key1.eq_13 AV.key1.eq_14 AV.key1.eq_15 AV.key1.eq_16
attribute [go_sem] AV.keys.eq_1 AV.keys.eq_2 AV.keys.eq_3 AV.keys.eq_4 AV.keys.eq_5 AV.keys.eq_6 AV.keys.eq_7 AV.keys.eq_8 AV.keys.eq_9 AV.keys.eq_10 AV.keys.eq_11 AV.keys.eq_12 AV.keys.eq_13 AV.keys.eq_14 AV.keys.eq_15 AV.keys.eq_16
attribute [go_sem] AV.fz1.eq_1 AV.fz1.eq_2 AV.fz1.eq_3 AV.fz1.eq_4 AV.fz1.eq_5 AV.fz1.eq_6 AV.fz1.eq_7 AV.fz1.eq_8 AV.fz1.eq_9 AV.fz1.eq_10 AV.fz1.eq_11 AV.fz1.eq_12 AV.fz1.eq_13 AV.fz1.eq_14 AV.fz1.eq_15 AV.fz1.eq_16
attribute [go_sem] AV.fz.eq_1 AV.fz.eq_2 AV.fz.eq_3 AV.fz.eq_4 AV.fz.eq_5 AV.fz.eq_6 AV.fz.eq_7 AV.fz.eq_8 AV.fz.eq_9 AV.fz.eq_10 AV.fz.eq_11 AV.fz.eq_12 AV.fz.eq_13 AV.fz.eq_14 AV.fz.eq_15 AV.fz.eq_16
attribute [go_sem] freezeH.eq_1 freezeH.eq_2
attribute [go_sem] freezeAll.eq_1 freezeAll.eq_2
attribute [go_sem] wG.eq_1 wG.eq_2
attribute [go_sem] jA.eq_1 jA.eq_2
attribute [go_sem] AV.dv1.eq_1 AV.dv1.eq_2 AV.dv1.eq_3 AV.dv1.eq_4 AV.dv1.eq_5 AV.dv1.eq_6 AV.dv1.eq_7 AV.dv1.eq_8 AV.dv1.eq_9 AV.dv1.eq_10 AV.dv1.eq_11 AV.dv1.eq_12 AV.dv1.eq_13 AV.dv1.eq_14 AV.dv1.eq_15 AV.dv1.eq_16
attribute [go_sem] AV.dv.eq_1 AV.dv.eq_2 AV.dv.eq_3 AV.dv.eq_4 AV.dv.eq_5 AV.dv.eq_6 AV.dv.eq_7 AV.dv.eq_8 AV.dv.eq_9 AV.dv.eq_10 AV.dv.eq_11 AV.dv.eq_12 AV.dv.eq_13 AV.dv.eq_14 AV.dv.eq_15 AV.dv.eq_16
attribute [go_sem] AV.atom.eq_1 AV.atom.eq_2 AV.atom.eq_3 AV.atom.eq_4 AV.atom.eq_5 AV.atom.eq_6 AV.atom.eq_7 AV.atom.eq_8 AV.atom.eq_9 AV.atom.eq_10 AV.atom.eq_11 AV.atom.eq_12 AV.atom.eq_13 AV.atom.eq_14 AV.atom.eq_15 AV.atom.eq_16
attribute [go_sem] AV.simple.eq_1 AV.simple.eq_2 AV.simple.eq_3 AV.simple.eq_4 AV.simple.eq_5 AV.simple.eq_6 AV.simple.eq_7 AV.simple.eq_8 AV.simple.eq_9 AV.simple.eq_10 AV.simple.eq_11 AV.simple.eq_12 AV.simple.eq_13 AV.simple.eq_14 AV.simple.eq_15 AV.simple.eq_16
attribute [go_sem] part.eq_1 part.eq_2
attribute [go_sem] DQ.eq_1 DQ.eq_2
attribute [go_sem] AV.like.eq_1 AV.like.eq_2 AV.like.eq_3
attribute [go_sem] Ho.eq_1 Ho.eq_2 Ho.eq_3 Ho.eq_4 Ho.eq_5 Ho.eq_6 Ho.eq_7 Ho.eq_8 Ho.eq_9 Ho.eq_10 Ho.eq_11 Ho.eq_12 Ho.eq_13 Ho.eq_14 Ho.eq_15 Ho.eq_16
attribute [go_sem] Ch.eq_1 Ch.eq_2 Ch.eq_3 Ch.eq_4 Ch.eq_5 Ch.eq_6 Ch.eq_7 Ch.eq_8 Ch.eq_9 Ch.eq_10 Ch.eq_11 Ch.eq_12 Ch.eq_13 Ch.eq_14 Ch.eq_15 Ch.eq_16
attribute [go_sem] Yw.eq_1 Yw.eq_2 Yw.eq_3 Yw.eq_4
attribute [go_sem] LL.eq_1 LL.eq_2
attribute [go_sem] Le.eq_1 Le.eq_2 Le.eq_3 Le.eq_4 Le.eq_5 Le.eq_6 Le.eq_7 Le.eq_8 Le.eq_9 Le.eq_10 Le.eq_11 Le.eq_12 Le.eq_13 Le.eq_14 Le.eq_15 Le.eq_16 Le.eq_17
attribute [go_sem] UL.eq_1 UL.eq_2 UL.eq_3 UL.eq_4 UL.eq_5 UL.eq_6 UL.eq_7 UL.eq_8
attribute [go_sem] eh.eq_1 eh.eq_2 eh.eq_3
attribute [go_sem] shB.eq_1 shB.eq_2 shB.eq_3
attribute [go_sem] aX.eq_1 aX.eq_2 aX.eq_3 aX.eq_4
attribute [go_sem] eq1.eq_1 eq1.eq_2 eq1.eq_3 eq1.eq_4
attribute [go_sem] dQ.eq_1 dQ.eq_2 dQ.eq_3 dQ.eq_4
attribute [go_sem] KF.eq_1 KF.eq_2
attribute [go_sem] Hg.eq_1 Hg.eq_2 Hg.eq_3
attribute [go_sem] Oq.eq_1 Oq.eq_2
attribute [go_sem] unA.eq_1 unA.eq_2 unA.eq_3 unA.eq_4 unA.eq_5
attribute [go_sem] Nm.eq_1 Nm.eq_2
attribute [go_sem] Gu.eq_1 Gu.eq_2
attribute [go_sem] bJ.eq_1 bJ.eq_2
attribute [go_sem] jK.eq_1 jK.eq_2
attribute [go_sem] Lq.eq_1 Lq.eq_2 Lq.eq_3
attribute [go_sem] MG.eq_1 MG.eq_2 MG.eq_3 MG.eq_4
attribute [go_sem] aL.eq_1 aL.eq_2
attribute [go_sem] lR.eq_1 lR.eq_2
attribute [go_sem] oZ.eq_1 oZ.eq_2
attribute [go_sem] Vy.eq_1 Vy.eq_2 Vy.eq_3 Vy.eq_4
attribute [go_sem] pB.eq_1 pB.eq_2
attribute [go_sem] Vp.eq_1 Vp.eq_2 Vp.eq_3 Vp.eq_4 Vp.eq_5
attribute [go_sem] Id.eq_1 Id.eq_2
attribute [go_sem] LK.eq_1 LK.eq_2 LK.eq_3 LK.eq_4
attribute [go_sem] KQ.eq_1 KQ.eq_2 KQ.eq_3
attribute [go_sem] pD.eq_1 pD.eq_2
attribute [go_sem] JY.eq_1 JY.eq_2 JY.eq_3
attribute [go_sem] OR.eq_1 OR.eq_2
attribute [go_sem] jx.eq_1 jx.eq_2
attribute [go_sem] aE.eq_1 aE.eq_2
attribute [go_sem] Om.eq_1 Om.eq_2
attribute [go_sem] MB.eq_1 MB.eq_2
attribute [go_sem] setOk.eq_1 setOk.eq_2
attribute [go_sem] mm2.eq_1 mm2.eq_2
attribute [go_sem] Uq.eq_1 Uq.eq_2
attribute [go_sem] fO.eq_1 fO.eq_2
attribute [go_sem] mmA.eq_1 mmA.eq_2
attribute [go_sem] Yz.eq_1 Yz.eq_2
attribute [go_sem] AU.eq_1 AU.eq_2 AU.eq_3 AU.eq_4 AU.eq_5 AU.eq_6 AU.eq_7 AU.eq_8 AU.eq_9 AU.eq_10 AU.eq_11 AU.eq_12 AU.eq_13 AU.eq_14 AU.eq_15 AU.eq_16 AU.eq_17 AU.eq_18 AU.eq_19 AU.eq_20 AU.eq_21 AU.eq_22 AU.eq_23 AU.eq_24 AU.eq_25 AU.eq_26 AU.eq_27 AU.eq_28 AU.eq_29 AU.eq_30 AU.eq_31 AU.eq_32 AU.eq_33 AU.eq_34 AU.eq_35 AU.eq_36
attribute [go_sem] tk.eq_1 tk.eq_2 tk.eq_3
attribute [go_sem] zm.eq_1 zm.eq_2
attribute [go_sem] Lb.eq_1 Lb.eq_2 Lb.eq_3 Lb.eq_4
attribute [go_sem] Jk.eq_1 Jk.eq_2 Jk.eq_3 Jk.eq_4
attribute [go_sem] adopt.eq_1 adopt.eq_2 adopt.eq_3 adopt.eq_4 adopt.eq_5 adopt.eq_6 adopt.eq_7 adopt.eq_8 adopt.eq_9 adopt.eq_10 adopt.eq_11 adopt.eq_12 adopt.eq_13 adopt.eq_14 adopt.eq_15 adopt.eq_16
attribute [go_sem] ak.eq_1 ak.eq_2 ak.eq_3
attribute [go_sem] ES.eq_1 ES.eq_2
attribute [go_sem] Ay.eq_1 Ay.eq_2 Ay.eq_3 Ay.eq_4
attribute [go_sem] Dm.eq_1 Dm.eq_2
attribute [go_sem] Oh.eq_1 Oh.eq_2
attribute [go_sem] RE.eq_1 RE.eq_2
attribute [go_sem] Iq.eq_1 Iq.eq_2
attribute [go_sem] lm.eq_1 lm.eq_2
attribute [go_sem] Qe.eq_1 Qe.eq_2
attribute [go_sem] JC.eq_1 JC.eq_2 JC.eq_3 JC.eq_4
attribute [go_sem] Fk.eq_1 Fk.eq_2 Fk.eq_3 Fk.eq_4 Fk.eq_5 Fk.eq_6 Fk.eq_7 Fk.eq_8 Fk.eq_9 Fk.eq_10 Fk.eq_11 Fk.eq_12 Fk.eq_13 Fk.eq_14 Fk.eq_15 Fk.eq_16
attribute [go_sem] ZH.eq_1 ZH.eq_2
attribute [go_sem] EO.eq_1 EO.eq_2 EO.eq_3 EO.eq_4 EO.eq_5
attribute [go_sem] De.eq_1 De.eq_2 De.eq_3
attribute [go_sem] BU.eq_1 BU.eq_2
attribute [go_sem] BW.eq_1 BW.eq_2 BW.eq_3 BW.eq_4
attribute [go_sem] EA.eq_1 EA.eq_2 EA.eq_3 EA.eq_4
attribute [go_sem] Dg.eq_1 Dg.eq_2
attribute [go_sem] Ae.eq_1 Ae.eq_2 Ae.eq_3 Ae.eq_4 Ae.eq_5 Ae.eq_6 Ae.eq_7
attribute [go_sem] Lv.eq_1 Lv.eq_2
attribute [go_sem] aS.eq_1 aS.eq_2
attribute [go_sem] QF.eq_1 QF.eq_2
attribute [go_sem] JK.eq_1 JK.eq_2
attribute [go_sem] cD.eq_1 cD.eq_2
attribute [go_sem] CM.eq_1 CM.eq_2 CM.eq_3 CM.eq_4 CM.eq_5
attribute [go_sem] Uz.eq_1 Uz.eq_2
attribute [go_sem] Qi.eq_1 Qi.eq_2 Qi.eq_3
attribute [go_sem] Cg.eq_1 Cg.eq_2 Cg.eq_3 Cg.eq_4 Cg.eq_5 Cg.eq_6
attribute [go_sem] AV.lone.eq_1 AV.lone.eq_2 AV.lone.eq_3 AV.lone.eq_4 AV.lone.eq_5 AV.lone.eq_6 AV.lone.eq_7 AV.lone.eq_8 AV.lone.eq_9 AV.lone.eq_10 AV.lone.eq_11 AV.lone.eq_12 AV.lone.eq_13 AV.lone.eq_14 AV.lone.eq_15 AV.lone.eq_16
attribute [go_sem] BG.eq_1 BG.eq_2 BG.eq_3 BG.eq_4 BG.eq_5 BG.eq_6 BG.eq_7 BG.eq_8 BG.eq_9 BG.eq_10 BG.eq_11 BG.eq_12 BG.eq_13 BG.eq_14 BG.eq_15 BG.eq_16 BG.eq_17 BG.eq_18 BG.eq_19 BG.eq_20 BG.eq_21 BG.eq_22 BG.eq_23 BG.eq_24 BG.eq_25 BG.eq_26
attribute [go_sem] Ar.eq_1 Ar.eq_2 Ar.eq_3 Ar.eq_4 Ar.eq_5 Ar.eq_6 Ar.eq_7 Ar.eq_8 Ar.eq_9 Ar.eq_10 Ar.eq_11 Ar.eq_12 Ar.eq_13 Ar.eq_14 Ar.eq_15 Ar.eq_16 Ar.eq_17 Ar.eq_18 Ar.eq_19 Ar.eq_20 Ar.eq_21 Ar.eq_22 Ar.eq_23 Ar.eq_24 Ar.eq_25
attribute [go_sem] Ib.eq_1 Ib.eq_2 Ib.eq_3
attribute [go_sem] DE.eq_1 DE.eq_2 DE.eq_3 DE.eq_4 DE.eq_5 DE.eq_6 DE.eq_7 DE.eq_8 DE.eq_9 DE.eq_10 DE.eq_11 DE.eq_12 DE.eq_13 DE.eq_14 DE.eq_15 DE.eq_16
attribute [go_sem] IF.eq_1 IF.eq_2 IF.eq_3 IF.eq_4 IF.eq_5 IF.eq_6 IF.eq_7 IF.eq_8 IF.eq_9
attribute [go_sem] EM.eq_1 EM.eq_2 EM.eq_3
attribute [go_sem] UH.eq_1 UH.eq_2
attribute [go_sem] JJ.eq_1 JJ.eq_2
attribute [go_sem] Ec.eq_1 Ec.eq_2 Ec.eq_3 Ec.eq_4 Ec.eq_5 Ec.eq_6 Ec.eq_7 Ec.eq_8 Ec.eq_9 Ec.eq_10 Ec.eq_11 Ec.eq_12 Ec.eq_13 Ec.eq_14 Ec.eq_15 Ec.eq_16 Ec.eq_17
attribute [go_sem] OL.eq_1 OL.eq_2 OL.eq_3
attribute [go_sem] Ia.eq_1 Ia.eq_2 Ia.eq_3 Ia.eq_4 Ia.eq_5
attribute [go_sem] DZ.eq_1 DZ.eq_2 DZ.eq_3 DZ.eq_4 DZ.eq_5
attribute [go_sem] Jo.eq_1 Jo.eq_2 Jo.eq_3 Jo.eq_4 Jo.eq_5 Jo.eq_6 Jo.eq_7 Jo.eq_8 Jo.eq_9 Jo.eq_10 Jo.eq_11 Jo.eq_12 Jo.eq_13 Jo.eq_14 Jo.eq_15 Jo.eq_16
attribute [go_sem] Jy.eq_1 Jy.eq_2
attribute [go_sem] CL.eq_1 CL.eq_2 CL.eq_3 CL.eq_4 CL.eq_5 CL.eq_6 CL.eq_7 CL.eq_8 CL.eq_9 CL.eq_10 CL.eq_11 CL.eq_12 CL.eq_13 CL.eq_14 CL.eq_15 CL.eq_16 CL.eq_17 CL.eq_18 CL.eq_19 CL.eq_20 CL.eq_21 CL.eq_22 CL.eq_23 CL.eq_24 CL.eq_25 CL.eq_26 CL.eq_27 CL.eq_28 CL.eq_29 CL.eq_30 CL.eq_31 CL.eq_32 CL.eq_33 CL.eq_34 CL.eq_35 CL.eq_36
attribute [go_sem] AAT.eq_1 AAT.eq_2
attribute [go_sem] WK.eq_1 WK.eq_2
attribute [go_sem] jm.eq_1 jm.eq_2 jm.eq_3
attribute [go_sem] Ok.eq_1 Ok.eq_2 Ok.eq_3
attribute [go_sem] UF.eq_1 UF.eq_2 UF.eq_3
attribute [go_sem] Cx.eq_1 Cx.eq_2 Cx.eq_3 Cx.eq_4
attribute [go_sem] Ke.eq_1 Ke.eq_2
attribute [go_sem] Uk.eq_1 Uk.eq_2
attribute [go_sem] Ef.eq_1 Ef.eq_2
attribute [go_sem] Hl.eq_1 Hl.eq_2 Hl.eq_3
attribute [go_sem] OQ.eq_1 OQ.eq_2
attribute [go_sem] ddp.eq_1 ddp.eq_2
attribute [go_sem] oj.eq_1 oj.eq_2
attribute [go_sem] AV.re1.eq_1 AV.re1.eq_2 AV.re1.eq_3 AV.re1.eq_4 AV.re1.eq_5 AV.re1.eq_6 AV.re1.eq_7 AV.re1.eq_8 AV.re1.eq_9 AV.re1.eq_10 AV.re1.eq_11 AV.re1.eq_12 AV.re1.eq_13 AV.re1.eq_14 AV.re1.eq_15 AV.re1.eq_16
attribute [go_sem] AV.re.eq_1 AV.re.eq_2 AV.re.eq_3 AV.re.eq_4 AV.re.eq_5 AV.re.eq_6 AV.re.eq_7 AV.re.eq_8 AV.re.eq_9 AV.re.eq_10 AV.re.eq_11 AV.re.eq_12 AV.re.eq_13 AV.re.eq_14 AV.re.eq_15 AV.re.eq_16
attribute [go_sem] cM.eq_1 cM.eq_2
attribute [go_sem] ey.eq_1 ey.eq_2
attribute [go_sem] nZ.eq_1 nZ.eq_2
attribute [go_sem] IZ.eq_1 IZ.eq_2 IZ.eq_3
attribute [go_sem] Oe.eq_1 Oe.eq_2 Oe.eq_3
attribute [go_sem] LW.eq_1 LW.eq_2
attribute [go_sem] Ic.eq_1 Ic.eq_2 Ic.eq_3
attribute [go_sem] RP.eq_1 RP.eq_2 RP.eq_3
attribute [go_sem] Oy.eq_1 Oy.eq_2
attribute [go_sem] Aq.eq_1 Aq.eq_2 Aq.eq_3 Aq.eq_4 Aq.eq_5 Aq.eq_6 Aq.eq_7 Aq.eq_8 Aq.eq_9 Aq.eq_10 Aq.eq_11 Aq.eq_12 Aq.eq_13
attribute [go_sem] Ka.eq_1 Ka.eq_2 Ka.eq_3 Ka.eq_4
attribute [go_sem] BI.eq_1 BI.eq_2 BI.eq_3 BI.eq_4
attribute [go_sem] WI.eq_1 WI.eq_2
attribute [go_sem] Nw.eq_1 Nw.eq_2
attribute [go_sem] gI.eq_1 gI.eq_2
attribute [go_sem] gH.eq_1 gH.eq_2
attribute [go_sem] CP.eq_1 CP.eq_2 CP.eq_3 CP.eq_4 CP.eq_5 CP.eq_6 CP.eq_7 CP.eq_8 CP.eq_9 CP.eq_10 CP.eq_11 CP.eq_12 CP.eq_13 CP.eq_14 CP.eq_15 CP.eq_16
attribute [go_sem] Vs.eq_1 Vs.eq_2 Vs.eq_3
attribute [go_sem] Ny.eq_1 Ny.eq_2
attribute [go_sem] co.eq_1 co.eq_2
attribute [go_sem] ae.eq_1 ae.eq_2
attribute [go_sem] gP.eq_1 gP.eq_2 gP.eq_3
attribute [go_sem] Np.eq_1 Np.eq_2 Np.eq_3
attribute [go_sem] TE.eq_1 TE.eq_2
attribute [go_sem] Hz.eq_1 Hz.eq_2 Hz.eq_3 Hz.eq_4
attribute [go_sem] RK.eq_1 RK.eq_2 RK.eq_3
attribute [go_sem] Jh.eq_1 Jh.eq_2 Jh.eq_3
attribute [go_sem] ANg List.set_cons_succ List.set_cons_zero List.getD_cons_zero List.getD_cons_succ List.map_cons List.map_nil List.length_cons List.length_nil List.cons_append List.nil_append List.append_nil List.replicate_succ List.replicate_zero List.any_cons List.any_nil List.all_cons List.all_nil Nat.reduceMod Nat.reduceAdd Nat.reduceMul Nat.reduceSub Nat.reduceDiv Nat.reduceEqDiff Nat.reduceLeDiff Nat.reduceBEq Nat.reduceBeqDiff Nat.reduceLT decide_true decide_false reduceCtorEq List.flatMap_nil List.flatMap_cons bfT Bool.and_self Bool.or_self Bool.not_false Bool.not_true Bool.not_not Bool.and_true Bool.true_and Bool.false_and Bool.and_false Bool.or_true Bool.true_or Bool.or_false Bool.false_or List.drop_zero List.drop_succ_cons List.take_succ_cons List.take_zero List.isEmpty_nil List.isEmpty_cons if_true if_false ite_self dtE beq_self_eq_true tnC Int.reduceNeg Int.reduceLE Int.reduceLT Int.reduceToNat Int.reduceEq Int.reduceBEq Option.map_some Option.map_none Option.toList_some Option.toList_none
attribute [go_sem ↓] reduceIte
theorem cf(f:St->Fw)(k o r:List Bool)(n:Nat)(s:St):CV f k o r (n+1) s=IZ (CV f k o r n) (Ic k o r (f s)):=rfl
theorem tj{α:Type}(f:α->AV)(xs:List α)(e:α){i:Nat}(h:i<xs.length):(xs.map f).getD i .any=f (xs.getD i e):=by
 simp[gdE,List.getElem?_map,geE h]
attribute [go_sem] List.length_map List.length_append List.length_set List.length_replicate List.length_drop List.length_take
end Go.Proofs.YteaicgcfpcklkaaGreatDoor
namespace Go.Proofs.YteaicgcfpcklkaaGreatDoor
open Go Go.RowKit
def PM(k n:Nat):Kw:=⟨.push,k,none,.mov (.v n)⟩
def VS(n k i:Nat):Kw:=⟨.var n,k,none,.mov (.s i)⟩
def PO(k:Nat)(a:GR):Kw:=⟨.push,k,none,a⟩
def VO(n k:Nat)(a:GR):Kw:=⟨.var n,k,none,a⟩
def SO(n k:Nat)(a:GR):Kw:=⟨.slot n,k,none,a⟩
def I6(n:Int):Src:=.c (.int .i64 n)
def S0:Src:=.s 0
def S1:Src:=.s 1
def S2:Src:=.s 2
def S3:Src:=.s 3
def S4:Src:=.s 4
def S5:Src:=.s 5
def S6:Src:=.s 6
def S7:Src:=.s 7
def S8:Src:=.s 8
def S9:Src:=.s 9
def V0:Src:=.v 0
def V1:Src:=.v 1
def V2:Src:=.v 2
def V3:Src:=.v 3
def V4:Src:=.v 4
def V5:Src:=.v 5
def V6:Src:=.v 6
def V7:Src:=.v 7
def V8:Src:=.v 8
def V9:Src:=.v 9
def G1(i:Nat):Option (Src×Bool):=some (.s i,true)
def G0(i:Nat):Option (Src×Bool):=some (.s i,false)
def C0:Src:=.c (.bool false)
def C1:Src:=.c (.bool true)
def C2:Src:=.c (.str [])
def C3:Src:=.c (.str [32])
def L1:Src->GR:=.load false 1
def L5:Src->GR:=.load true 5
def L3:Src->GR:=.load true 3
def B0:Src->Src->GR:=.bin false .add
def B1:Src->Src->GR:=.bin false .lss
def B2:Src->Src->GR:=.bin false .eql
def B3:Src->Src->GR:=.bin false .sub
def B4:Src->Src->GR:=.bin false .gtr
def B5:Src->Src->GR:=.bin false .leq
def B6:Src->Src->GR:=.bin false .geq
def B7:Src->Src->GR:=.bin false .neq
def B8:Src->Src->GR:=.bin false .mul
def F0:Src->GR:=.fldAddr 0
def F1:Src->GR:=.fldAddr 1
def F2:Src->GR:=.fldAddr 2
def F3:Src->GR:=.fldAddr 3
def F4:Src->GR:=.fldAddr 4
attribute [go_sem] S0 S1 S2 S3 S4 S5 S6 S7 S8 S9 V0 V1 V2 V3 V4 V5 V6 V7 V8 V9 G1 G0 C0 C1 C2 C3 L1 L5 L3 B0 B1 B2 B3 B4 B5 B6 B7 B8 F0 F1 F2 F3 F4
attribute [go_sem] PM VS PO VO SO I6
def ck{α:Type}(c:Bool)(k:Option α):Option α:=if c=true then k else none
theorem AC{α:Type}{c:Bool}{k:Option α}{r:α}(h:ck c k=some r):c=true∧k=some r:=by
 unfold ck at h;split at h
 ·exact⟨by assumption,h⟩
 ·cases h
theorem AG{α:Type}(k:Option α):ck true k=k:=id rfl
theorem AB{α β:Type}{x:Option α}{f:α->Option β}{r:β}(h:x.bind f=some r):∃ y,x=some y∧f y=some r:=by
 cases x with
 | none=>cases h
 | some y=>exact⟨y,rfl,h⟩
theorem AE{β:Type}{c:Bool}{a b:Option β}{r:β}(h:(if c=true then a else b)=some r):(c=true∧a=some r)∨(c=false∧b=some r):=by
 cases c
 ·exact .inr ⟨rfl,h⟩
 ·exact .inl ⟨rfl,h⟩
theorem AA{α:Type}{a b:α}(h:some a=some b):a=b:=Option.some.inj h
theorem Ag{g c:Bool}(h:(!g||c)=true):(g=true∧c=true)∨g=false:=by cases g<;>cases c<;>simp_all
theorem HU{a b:Bool}(h:(a&&b)=false):a=false∨(a=true∧b=false):=by cases a<;>cases b<;>simp_all
theorem Vj{a b:Bool}(h:(a&&b)=true):a=true∧b=true:=by cases a<;>cases b<;>simp_all
theorem bP{a b:Bool}(h:(a||b)=true):a=true∨(a=false∧b=true):=by cases a<;>cases b<;>simp_all
theorem ABq{a b:Bool}(h:(a||b)=false):a=false∧b=false:=by cases a<;>cases b<;>simp_all
theorem AJX{a b:Bool}(h:(a&&b)=false)(ha:a=true):b=false:=by cases a<;>cases b<;>simp_all
theorem AJY{a b:Bool}(h:(a&&b)=false)(hb:b=true):a=false:=by cases a<;>cases b<;>simp_all
theorem Is{a:Bool}(h:(!a)=true):a=false:=by cases a<;>simp_all
theorem FO{a:Bool}(h:(!a)=false):a=true:=by cases a<;>simp_all
theorem n1{b:Bool}:((!b)=true)=(b=false):=by cases b<;>simp
theorem n2{b:Bool}:((!b)=false)=(b=true):=by cases b<;>simp
theorem n3{a b:Bool}:((a&&b)=true)=(a=true∧b=true):=by cases a<;>cases b<;>simp
theorem n4{a b:Bool}:((a||b)=false)=(a=false∧b=false):=by cases a<;>cases b<;>simp
def slE{α:Type}(sz:Nat)(f:α->AV)(xs:List α):AV:=.sl sz (List.map f xs)
attribute [go_sem] slE Option.getD_some
def Kd{σ ρ:Type}(step:σ->Option (σ⊕ρ)):Nat->σ->Option ρ
 | 0,_=>none
 | n+1,s=>match step s with
  | none=>none
  | some (.inl s')=>Kd step n s'
  | some (.inr r)=>some r
open Classical in
def AS {σ ρ:Type} (step:σ->Option (σ⊕ρ)) (s:σ):Option ρ :=
 if h:∃ n,(Kd step n s).isSome=true then Kd step (Classical.choose h) s else none
theorem QV{σ ρ:Type}{step:σ->Option (σ⊕ρ)}{r:ρ}:∀ {n m:Nat} {s:σ},n<=m->Kd step n s=some r->Kd step m s=some r
 | 0,_,_,_,h=>by cases h
 | n+1,0,_,hm,_=>by omega
 | n+1,m+1,s,hm,h=>by
  simp only[Kd] at h ⊢;cases hs:step s with
  | none=>rw[hs] at h;cases h
  | some o=>
   rw[hs] at h;cases o with
   | inl s'=>exact QV (by omega) h
   | inr r'=>exact h
theorem UG{σ ρ:Type}{step:σ->Option (σ⊕ρ)}{s:σ}{r:ρ}{n:Nat}(h:Kd step n s=some r):AS step s=some r:=by
 have hx:∃ n,(Kd step n s).isSome=true:=⟨n,by rw[h];rfl⟩;unfold AS;rw[dif_pos hx];obtain⟨r',hr'⟩:=isX (Classical.choose_spec hx);rw[hr'];rcases Nat.le_total n (Classical.choose hx) with hle|hle
 ·rw[QV hle h] at hr';exact hr'.symm
 ·rw[QV hle hr'] at h;exact h
theorem Lh{σ ρ:Type}{step:σ->Option (σ⊕ρ)}{s:σ}{r:ρ}(h:AS step s=some r):∃ n,Kd step n s=some r:=by
 unfold AS at h;split at h
 ·exact⟨_,h⟩
 ·cases h
theorem bq{σ ρ:Type}(step:σ->Option (σ⊕ρ))(s:σ):AS step s=match step s with
  | none=>none
  | some (.inl s')=>AS step s'
  | some (.inr r)=>some r:=by
 apply Option.ext;intro r;constructor
 ·intro h;obtain⟨n,hn⟩:=Lh h;cases n with
  | zero=>cases hn
  | succ n=>
   simp only[Kd] at hn;cases hs:step s with
   | none=>rw[hs] at hn;cases hn
   | some o=>
    rw[hs] at hn;cases o with
    | inl s'=>exact UG hn
    | inr r'=>exact hn
 ·intro h;cases hs:step s with
  | none=>rw[hs] at h;cases h
  | some o=>
   rw[hs] at h;cases o with
   | inl s'=>
    obtain⟨n,hn⟩:=Lh h;exact UG (n:=n+1) (by simp only[Kd,hs];exact hn)
   | inr r'=>exact UG (n:=1) (by simp only[Kd,hs];exact h)
theorem Dh{σ ρ:Type}{step:σ->Option (σ⊕ρ)}{s s':σ}(h:step s=some (.inl s')):AS step s=AS step s':=by rw[bq,h]
theorem Cm{σ ρ:Type}{step:σ->Option (σ⊕ρ)}{s:σ}{r:ρ}(h:step s=some (.inr r)):AS step s=some r:=by rw[bq,h]
theorem YU{σ ρ:Type}{step:σ->Option (σ⊕ρ)}(f:Nat->σ)(m:Nat){r:ρ}(hs:∀ i,i<m->step (f i)=some (.inl (f (i+1))))(hd:step (f m)=some (.inr r)):AS step (f 0)=some r:=by
 have:∀ k,k<=m->AS step (f (m-k))=some r:=by
  intro k
  induction k with
  | zero=>intro _;exact Cm hd
  | succ k ih=>
   intro hk;rw[Dh (hs (m-(k+1)) (by omega)),show m-(k+1)+1=m-k by omega];exact ih (by omega)
 simpa using this m (Nat.le_refl _)
theorem Ax{σ ρ:Type}{step:σ->Option (σ⊕ρ)}{E:σ->St}{R:ρ->Fw}{T:Il}{b:IR}{kp ot rt:List Bool}(hR:∀ y,(R y).1 ≠ .norm)
  (hs:∀ s o,step s=some o->∃ L0,∀ L,L0<=L->Ic kp ot rt (Aq T L b (E s))=Sum.elim (fun s'=>((.norm,E s'):Fw)) R o)
  {s:σ} {y:ρ} (h:AS step s=some y):∃ L0,∀ L,L0<=L->CV (Aq T L b) kp ot rt L (E s)=R y:=by
 obtain⟨n,hn⟩:=Lh h
 have key:∀ n s,Kd step n s=some y->∃ L0,∀ L m,L0<=L->n<=m->CV (Aq T L b) kp ot rt m (E s)=R y:=by
  intro n
  induction n with
  | zero=>intro s h;cases h
  | succ n ih=>
   intro s h;simp only[Kd] at h;cases ho:step s with
   | none=>rw[ho] at h;cases h
   | some o=>
    rw[ho] at h;obtain⟨L1,h1⟩:=hs s o ho;cases o with
    | inl s'=>
     obtain⟨L2,h2⟩:=ih s' h;refine⟨L1+L2,fun L m hL hm=>?_⟩;cases m with
     | zero=>omega
     | succ m=>
      rw[cf,h1 L (by omega)];exact h2 L m (by omega) (by omega)
    | inr r=>
     cases h
     refine⟨L1,fun L m hL hm=>?_⟩;cases m with
     | zero=>omega
     | succ m=>
      rw[cf,h1 L hL];have:=hR y;simp only[Sum.elim_inr];revert this;generalize R y=q;obtain⟨e,s'⟩:=q;cases e
      ·intro c;exact absurd rfl c
      ·intro _;rfl
      ·intro _;rfl
 obtain⟨L0,h0⟩:=key n s hn;exact⟨L0+n,fun L hL=>h0 L L (by omega) (by omega)⟩
theorem Bk{α:Type}{f:α->AV}(h:∀ x,pe (f x)=true)(xs:List α):(List.map f xs).all pe=true:=by
 induction xs<;>simp_all
theorem Jn{l:List (Nat×Ak)}{fn:CN}{modes:List Md}{args:List AV}{r:AV}{outs:List AV}(h:∃ L0,∀ L,L0<=L->MD (AP l) L fn modes args=⟨true,r,outs⟩):(bH l fn modes).F args=⟨true,r,outs⟩:=by
 obtain⟨L,h⟩:=h;exact ANd L (h L (Nat.le_refl _))
theorem Ah{l:List (Nat×Ak)}{fn:CN}{modes:List Md}{args:List AV}{r:AV}{outs:List AV}(hf:Do r=true)(h:∃ L0,∀ L,L0<=L->MD (AP l) L fn modes args=⟨true,r,outs⟩):(DN l fn modes).F args=⟨true,r,outs⟩:=by
 obtain⟨L,h⟩:=h;exact ANe L (h L (Nat.le_refl _)) hf
open Classical in
def tyC {X Y:Type} [Inhabited Y] (c:Ak) (ea:X->List AV) (g:X->Option Y) (er:Y->AV) (eo:X->Y->List AV):Ak :=
 ⟨c.modes,c.flat,fun args=>if h:∃ x,ea x=args then ⟨(g (Classical.choose h)).isSome,er ((g (Classical.choose h)).getD default),eo (Classical.choose h) ((g (Classical.choose h)).getD default)⟩ else Rs.bad⟩
def qA(n:Int):UInt8:=UInt8.ofNat n.toNat
theorem wrap_i64{n:Int}(h1:-9223372036854775808<=n)(h2:n<=9223372036854775807):i64.wrap n=n:=by
 unfold IntKind.wrap IntKind.bits;simp[IntKind.signed];omega
theorem lE(e:Int):0<=IntKind.u8.wrap e:=by
 unfold IntKind.wrap IntKind.bits;simp[IntKind.signed];omega
theorem lF(e:Int):IntKind.u8.wrap e<256:=by
 unfold IntKind.wrap IntKind.bits;simp[IntKind.signed];omega
theorem ABK{n:Int}(h1:0<=n)(h2:n<256):IntKind.u8.wrap n=n:=by
 unfold IntKind.wrap IntKind.bits;simp[IntKind.signed];omega
theorem vg(c:UInt8):(c.toNat:Int)<256:=by have:=c.toNat_lt;omega
theorem pz(e:Int):(((UInt8.ofNat (IntKind.u8.wrap e).toNat).toNat:Nat):Int)=IntKind.u8.wrap e:=by
 have h1:=lE e;have h2:=lF e;rw[UInt8.toNat_ofNat'];omega
theorem AEH(c:UInt8):i64.wrap (c.toNat:Int)=(c.toNat:Int):=wrap_i64 (by omega) (by have:=vg c;omega)
theorem Na(xs:List UInt8):(xs.map Dv).all Gu=true:=by induction xs<;>simp_all [Dv,Gu]
theorem jV(b:Nat)(xs:List UInt8):(List.take b (xs.map Dv)).all Gu=true:=by rw[← List.map_take];exact Na _
theorem jW(a:Nat)(xs:List UInt8):(List.drop a (xs.map Dv)).all Gu=true:=by rw[← List.map_drop];exact Na _
theorem tS(a b:Nat)(xs:List UInt8):(List.drop a (List.take b (xs.map Dv))).all Gu=true:=by rw[← List.map_take,← List.map_drop];exact Na _
theorem nr(xs:List UInt8):(xs.map Dv).map Nm=xs:=by
 induction xs with
 | nil=>rfl
 | cons a r ih=>simp only[List.map_cons,ih,Dv,Nm,tnC,UInt8.ofNat_toNat]
theorem Mw{α:Type}[Inhabited α](f:α->AV)(xs:List α){i:Nat}(h:i<xs.length):(xs.map f).getD i .any=f (xs.getD i default):=tj f xs default h
theorem Az{n:Int}{m:Nat}(h:BC n m=true):n.toNat<m:=by
 simp only[BC,baT,dtE] at h;omega
theorem AGv(x:AV)(q:Bool):Yw false x (.bool q) = .bool q:=by cases x<;>rfl
theorem AGu(y:AV)(p:Bool):Yw true (.bool p) y = .bool p:=by cases y<;>rfl
theorem th{α:Type}{xs:List α}{i:Nat}{x d:α}(h:i<xs.length):(xs.set i x).getD i d=x:=by
 rw[gdE,List.getElem?_set_self h];rfl
attribute [go_sem] th List.set_set tnC UInt8.ofNat_toNat qA pz AEH Na jV jW tS nr List.map_append List.map_set List.map_take List.map_drop List.all_append Sum.elim_inl Sum.elim_inr AGv AGu St.mk.injEq Prod.mk.injEq List.map_replicate UInt8.reduceToNat Int.cast_ofNat_Int Bool.or_not_self Bool.not_or_self
theorem N1:(∀ b:Bool,((!b)=true)=(b=false))∧(∀ b:Bool,((!b)=false)=(b=true))∧(∀ a b:Bool,((a&&b)=true)=(a=true∧b=true))∧(∀ a b:Bool,((a||b)=false)=(a=false∧b=false)):=⟨@n1,@n2,@n3,@n4⟩
theorem ti{α:Type}[Inhabited α](f:α->AV)(xs:List α){i:Nat}(h:i<xs.length):(List.map f xs).getD i .any=f (xs.getD i default):=Mw f xs h
attribute [go_sem] ti
theorem Jj{F:Nat->Prop}{g0:Gh}{args:List AV}{modes:List Md}{w w':World}{v:Value}{r:AV}{outs:List AV}(hs:AR (fun _=>False) w w')
  (hr:RV (AW F g0 []) w' g0 [] id v r) (hf:∀ i,¬ Ht r i) (hio:∀ j:Nat,modes[j]? ≠ some Md.io):bD F g0 args modes w v w' r outs g0 [] id where
 same:=hs.mono fun _ _ c=>c.elim
 home:=fun k h hg=>by simp[AK] at hg
 inj:=fun k k' hk=>by obtain⟨⟨h,hg⟩,_⟩:=hk;simp[AK] at hg
 nF:=fun k hk=>by obtain⟨⟨h,hg⟩,_⟩:=hk;simp[AK] at hg
 hio:=fun k hk=>by obtain⟨⟨h,hg⟩,_⟩:=hk;simp[AK] at hg
 val:=hr
 κinj:=fun i j hi=>(hf i hi).elim
 κio:=fun i j hi=>(hf i hi).elim
 out:=fun j hj=>(hio j hj).elim
theorem FD{F:Nat->Prop}{g:Gh}{w:World}{args:List AV}{vargs:Array Value}(h:FR F g w vargs (List.range args.length) [] (LZ args)){i:Nat}(hi:i<args.length):
  SR (AW F g (BI 0 args)) w g (BI 0 args) (vargs.getD i undef) (Zs i (args.getD i .any)):=by
 have:=h.vs i (by simpa using hi);have e1:(List.range args.length).getD i 0=i:=by rw[gdE,List.getElem?_range hi];rfl
 rw[e1] at this;have e2:(LZ args).vs.getD i .any=Zs (0+i) (args.getD i .any):=Jv args 0 i hi;rw[e2,Nat.zero_add] at this;exact this
theorem Kz{vargs:Array Value}(h:vargs.size=2):vargs = #[vargs.getD 0 undef,vargs.getD 1 undef]:=by
 obtain⟨l⟩:=vargs
 match l,h with
 | [a,b],_=>rfl
def ANt(a b:List UInt8):Option Int:=some (Lib.compareBytes a b)
def zk:List AV->Rs
 | [.str a,.str b]=>⟨true,.int .i64 (Lib.compareBytes a b),[.any,.any]⟩
 | _=>Rs.bad
def Ow:Ak:=⟨[.bor,.bor],true,zk⟩
theorem AEe{a b:List UInt8}{y_:Int}(h:ANt a b=some y_):Ow.F [.str a,.str b]=⟨true,.int .i64 y_,[.any,.any]⟩:=by
 cases h;rfl
theorem AJb:Ow.modes=[.bor,.bor]:=rfl
theorem AEj:Ow.flat=true:=rfl
attribute [go_sem] AJb AEj
theorem dE{args:List AV}(h:(zk args).ok=true):∃ a b,args=[.str a,.str b]:=by
 unfold zk at h;split at h
 ·exact⟨_,_,rfl⟩
 ·cases h
theorem nL{P:Program}{f:FuncId}{fn:Func}(hf:P.funcs[f]? = some fn)(hname:(fn.name == "runtime.NumGoroutine")=false)(hb:fn.body.isNone=true)(hn:Extern.findNext fn=none)
  (he:Extern.find fn=some Extern.BytealgCompare.compare):AQ P f Ow:=by
 refine⟨fun _=>rfl,fun F g0 w args vargs hsh hsz hfr hok=>⟨fun _=>?_,?_⟩⟩
 ·obtain⟨a,b,rfl⟩:=dE hok;rfl
 ·obtain⟨a,b,rfl⟩:=dE hok;have h0:=FD hfr (i:=0) (by simp);have h1:=FD hfr (i:=1) (by simp);rw[Kz hsz];generalize vargs.getD 0 undef=x at h0;generalize vargs.getD 1 undef=y at h1;cases h0;cases h1
  unfold CZ;rw[run_callFunc_extern hf hname hb hn he,Lib.run_compareString];simp only[Result.andThen];refine⟨_,g0,[],id,rfl,Jj (AR.refl _ _) ?_ (fun i hi=>?_) (fun j hj=>?_)⟩
  ·exact .int
  ·exact absurd hi.2 Bool.false_ne_true
  ·match j with
   | 0=>cases hj
   | 1=>cases hj
   | j+2=>simp[Ow] at hj
def hIdx(s:List UInt8)(c:UInt8):Option Int:=some (Lib.indexByte s c)
def ANp:List AV->Rs
 | [.str a,.int .u8 c]=>⟨true,.int .i64 (Lib.indexByte a c.toNat.toUInt8),[.any,.any]⟩
 | _=>Rs.bad
def AAI:Ak:=⟨[.bor,.bor],true,ANp⟩
theorem AJZ:AAI.modes=[.bor,.bor]:=rfl
theorem AEg:AAI.flat=true:=rfl
attribute [go_sem] AJZ AEg
def ADz(n b:Int):Option (List UInt8):=if (decide (-9223372036854775808<=n)&&decide (n<=9223372036854775807)&&decide (b=10))=true then some (Lib.itoa n) else none
def Zx:List AV->Rs
 | [.int .i64 n,.int .i64 b]=>⟨decide (-9223372036854775808<=n)&&decide (n<=9223372036854775807)&&decide (b=10),.str (Lib.itoa n),[.any,.any]⟩
 | _=>Rs.bad
def Nl:Ak:=⟨[.bor,.bor],true,Zx⟩
theorem AEd{n b:Int}{y_:List UInt8}(h:ADz n b=some y_):Nl.F [.int .i64 n,.int .i64 b]=⟨true,.str y_,[.any,.any]⟩:=by
 unfold ADz at h;split at h
 ·rename_i hc;cases h;show (⟨_,_,_⟩:Rs)=_;rw[hc]
 ·cases h
theorem AJa:Nl.modes=[.bor,.bor]:=rfl
theorem AEh:Nl.flat=true:=rfl
attribute [go_sem] AJa AEh
theorem dC{args:List AV}(h:(Zx args).ok=true):∃ n,-9223372036854775808<=n∧n<=9223372036854775807∧args=[.int .i64 n,.int .i64 10]∧Zx args=⟨true,.str (Lib.itoa n),[.any,.any]⟩:=by
 unfold Zx at h ⊢;split at h
 ·rename_i n b;simp only[baT,dtE] at h;obtain⟨⟨h1,h2⟩,rfl⟩:=h;exact⟨n,h1,h2,rfl,by simp[h1,h2]⟩
 ·cases h
theorem nJ{P:Program}{f:FuncId}(hc:∀ (n:Int) (w:World),-9223372036854775808<=n->n<=9223372036854775807->GT (fun _=>False) w ->
  CZ P f #[.int .i64 n,.int .i64 10] w fun e w'=>e = .returned (.string ⟨(Lib.itoa n).toArray⟩)∧AR (fun _=>False) w w'):AQ P f Nl:=by
 refine⟨fun _=>rfl,fun F g0 w args vargs hsh hsz hfr hok=>⟨fun _=>?_,?_⟩⟩
 ·obtain⟨n,_,_,rfl,e⟩:=dC hok;show Do (Zx _).r=true;rw[e];rfl
 ·obtain⟨n,hn1,hn2,rfl,e⟩:=dC hok;have h0:=FD hfr (i:=0) (by simp);have h1:=FD hfr (i:=1) (by simp);rw[Kz hsz];generalize vargs.getD 0 undef=x at h0;generalize vargs.getD 1 undef=y at h1;cases h0;cases h1
  refine (hc n w hn1 hn2 (hfr.tab.mono (AR.refl _ _) fun _ _ c=>c.elim)).mono fun e' w' ⟨he,hs⟩=>?_
  refine⟨_,g0,[],id,he,Jj hs ?_ (fun i hi=>?_) (fun j hj=>?_)⟩
  ·show RV _ _ _ _ _ _ (Zx _).r;rw[e];exact .str
  ·have hi':Ht (Zx _).r i:=hi;rw[e] at hi';exact absurd hi'.2 Bool.false_ne_true
  ·match j with
   | 0=>cases hj
   | 1=>cases hj
   | j+2=>simp[Nl] at hj
def ANZ(g:Nat)(x y:Rs):AV->Rs
 | .fn (.func h) _ _=>bif h==g then x else y
 | _=>Rs.bad
def pickC(j g:Nat)(c1 c2:Ak):Ak:=⟨c1.modes,c1.flat,fun args=>ANZ g (c1.F args) (c2.F args) (args.getD j .any)⟩
def NI:List AV->Option (List (List UInt8))
 | []=>some []
 | .str l::r=>(NI r).map (l::·)
 | _::_=>none
theorem YV:∀ ss:List (List UInt8),NI (List.map AV.str ss)=some ss
 | []=>rfl
 | s::r=>by simp[NI,YV r]
theorem bz:∀ {els:List AV} {ss:List (List UInt8)},NI els=some ss->els=List.map AV.str ss
 | [],ss,h=>by simp[NI] at h;subst h;rfl
 | a::r,ss,h=>by
  cases a<;>simp[NI] at h
  obtain⟨ss',h1,rfl⟩:=h;rw[bz h1];rfl
def AFC(l:List (List UInt8)):List (List UInt8):=l.mergeSort fun x y=>decide (x<=y)
def AFW(l:List (List UInt8)):List (List UInt8):=Lib.compact l
def ANs{α:Type}(l:List α):Option (List α):=if l.length<=1099511627776 then some l else none
def hSort(l:List (List UInt8)):Option (List (List UInt8)):=if l.length<4611686018427387904 then some (AFC l) else none
def ANr(l:List (List UInt8)):Option (List (List UInt8)):=if l.length<4611686018427387904 then some (AFW l) else none
def AML:Option (List (List UInt8))->Rs
 | some ss=>⟨decide (ss.length<4611686018427387904),.cv undef,[.fresh 1 (List.map AV.str (AFC ss))]⟩
 | none=>Rs.bad
def AMM:List AV->Rs
 | [.fresh sz els]=>bif sz==1 then AML (NI els) else Rs.bad
 | _=>Rs.bad
def ANx:Option (List (List UInt8))->Rs
 | some ss=>⟨decide (ss.length<4611686018427387904),.fresh 1 (List.map AV.str (AFW ss)),[.any]⟩
 | none=>Rs.bad
def ANy:List AV->Rs
 | [.fresh sz els]=>bif sz==1 then ANx (NI els) else Rs.bad
 | _=>Rs.bad
def pl:Ak:=⟨[.io],false,AMM⟩
def aT:Ak:=⟨[.mov],false,ANy⟩
theorem AEZ:pl.modes=[.io]:=rfl
theorem ABB:pl.flat=false:=rfl
theorem oF:aT.modes=[.mov]:=rfl
theorem lC:aT.flat=false:=rfl
attribute [go_sem] AEZ ABB oF lC
def MI:List AV->Option (List Int)
 | []=>some []
 | .int .i64 l::r=>(MI r).map (l::·)
 | _::_=>none
theorem QW:∀ ss:List Int,MI (List.map (AV.int .i64) ss)=some ss
 | []=>rfl
 | s::r=>by simp[MI,QW r]
theorem cy:∀ {els:List AV} {ss:List Int},MI els=some ss->els=List.map (AV.int .i64) ss
 | [],ss,h=>by simp[MI] at h;subst h;rfl
 | a::r,ss,h=>by
  cases a with
  | int k n=>
   cases k<;>simp[MI] at h
   obtain⟨ss',h1,rfl⟩:=h;rw[cy h1];rfl
  | _=>simp[MI] at h
def AFD(l:List Int):List Int:=l.mergeSort fun x y=>decide (x<=y)
def AFX(l:List Int):List Int:=Lib.compact l
def hSortI(l:List Int):Option (List Int):=if l.length<4611686018427387904 then some (AFD l) else none
def ALO(l:List Int):Option (List Int):=if l.length<4611686018427387904 then some (AFX l) else none
def AGY:Option (List Int)->Rs
 | some ss=>⟨decide (ss.length<4611686018427387904),.cv undef,[.fresh 1 (List.map (AV.int .i64) (AFD ss))]⟩
 | none=>Rs.bad
def AGZ:List AV->Rs
 | [.fresh sz els]=>bif sz==1 then AGY (MI els) else Rs.bad
 | _=>Rs.bad
def AJH:Option (List Int)->Rs
 | some ss=>⟨decide (ss.length<4611686018427387904),.fresh 1 (List.map (AV.int .i64) (AFX ss)),[.any]⟩
 | none=>Rs.bad
def AJI:List AV->Rs
 | [.fresh sz els]=>bif sz==1 then AJH (MI els) else Rs.bad
 | _=>Rs.bad
def kU:Ak:=⟨[.io],false,AGZ⟩
def Vd:Ak:=⟨[.mov],false,AJI⟩
theorem AAf:kU.modes=[.io]:=rfl
theorem vR:kU.flat=false:=rfl
theorem kr:Vd.modes=[.mov]:=rfl
theorem gw:Vd.flat=false:=rfl
attribute [go_sem] AAf vR kr gw
def jf(BY n:Nat)(i:Int)(m:Nat):Bool:=(decide (0<=i)&&decide (i<=(n:Int)))&&(decide (m=1)&&decide ((n+1)*BY<=140737488355328))
def gF(BY:Nat){α:Type}(l:List α)(i:Int)(v:List α):Option (List α):=if jf BY l.length i v.length=true then some (l.take i.toNat++(v++l.drop i.toNat)) else none
def dB(K BY:Nat):List AV->Rs
 | [.fresh sz els,.int .i64 i,.fresh sz2 xs]=>⟨(sz==K&&sz2==K)&&jf BY els.length i xs.length,.fresh K (els.take i.toNat++(xs++els.drop i.toNat)),[.any,.any,.any]⟩
 | _=>Rs.bad
def GI(K BY:Nat):Ak:=⟨[.mov,.bor,.mov],false,dB K BY⟩
theorem kv(K:Nat){BY:Nat}{α:Type}(f:α->AV){l:List α}{i:Int}{v y_:List α}(h:gF BY l i v=some y_):(GI K BY).F [.fresh K (List.map f l),.int .i64 i,.fresh K (List.map f v)]=⟨true,.fresh K (List.map f y_),[.any,.any,.any]⟩:=by
 unfold gF at h;split at h
 ·rename_i hc;cases h;show dB K BY [.fresh K (List.map f l),.int .i64 i,.fresh K (List.map f v)]=_;unfold dB;simp only[List.length_map,hc,beq_self_eq_true,Bool.and_self,List.map_append,List.map_take,List.map_drop]
 ·cases h
theorem dA{K BY:Nat}{args:List AV}(h:(dB K BY args).ok=true):∃ els i x,(0<=i∧i<=(els.length:Int))∧(els.length+1)*BY<=140737488355328∧args=[.fresh K els,.int .i64 i,.fresh K [x]] ∧
  dB K BY args=⟨true,.fresh K (els.take i.toNat++x::els.drop i.toNat),[.any,.any,.any]⟩:=by
 unfold dB at h ⊢;split at h
 ·rename_i sz els i sz2 xs;have h2:=h;simp only[jf,baT,beq_iff_eq,dtE] at h2;obtain⟨⟨rfl,rfl⟩,⟨h3,h4⟩,h5,h6⟩:=h2
  match xs,h5 with
  | [x],_=>exact⟨els,i,x,⟨h3,h4⟩,h6,rfl,congrArg (fun b=>(⟨b,.fresh sz2 (els.take i.toNat++x::els.drop i.toNat),[.any,.any,.any]⟩:Rs)) h⟩
 ·cases h
def AFU(n:Nat)(i j:Int):Bool:=(decide (0<=i)&&decide (i<j))&&(decide (j<=(n:Int))&&decide (n<=4611686018427387904))
def hDel{α:Type}(l:List α)(i j:Int):Option (List α):=if AFU l.length i j=true then some (l.take i.toNat++l.drop j.toNat) else none
def ANq(K:Nat):List AV->Rs
 | [.fresh sz els,.int .i64 i,.int .i64 j]=>⟨(sz==K)&&AFU els.length i j,.fresh K (els.take i.toNat++els.drop j.toNat),[.any,.any,.any]⟩
 | _=>Rs.bad
def c_hDel(K:Nat):Ak:=⟨[.mov,.bor,.bor],false,ANq K⟩
def Vr(s p:List UInt8):Option (List UInt8×List UInt8×Bool):=if s.length<4294967281 then some (Lib.cut s p) else none
def zj:List AV->Rs
 | [.str s,.str p]=>⟨decide (s.length<4294967281),.tup [.str (Lib.cut s p).1,.str (Lib.cut s p).2.1,.bool (Lib.cut s p).2.2],[.any,.any]⟩
 | _=>Rs.bad
def ML:Ak:=⟨[.bor,.bor],true,zj⟩
theorem gq{a b:List UInt8}{y_:List UInt8×List UInt8×Bool}(h:Vr a b=some y_):ML.F [.str a,.str b]=⟨true,.tup [.str y_.1,.str y_.2.1,.bool y_.2.2],[.any,.any]⟩:=by
 unfold Vr at h;split at h
 ·rename_i hc;cases h;show (⟨_,_,_⟩:Rs)=_;rw[decide_eq_true hc]
 ·cases h
theorem AAg:ML.modes=[.bor,.bor]:=rfl
theorem AEi:ML.flat=true:=rfl
attribute [go_sem] AAg AEi
theorem dD{args:List AV}(h:(zj args).ok=true):∃ s p,s.length<4294967281∧args=[.str s,.str p]:=by
 unfold zj at h;split at h
 ·rename_i s p;exact⟨s,p,of_decide_eq_true h,rfl⟩
 ·cases h
theorem AEP{c:Ak}(hm:c.modes=[.bor,.bor])(j:Nat):c.modes[j]? ≠ some Md.io:=by
 rw[hm]
 match j with
 | 0=>intro h;cases h
 | 1=>intro h;cases h
 | j+2=>simp
theorem vI{c:Ak}(hm:c.modes=[.bor])(j:Nat):c.modes[j]? ≠ some Md.io:=by
 rw[hm]
 match j with
 | 0=>intro h;cases h
 | j+1=>simp
theorem nK{P:Program}{f:FuncId}(hc:∀ (s p:List UInt8) (w:World),s.length<4294967281->GT (fun _=>False) w ->
  CZ P f #[.string ⟨s.toArray⟩,.string ⟨p.toArray⟩] w fun e w'=>e = .returned (.tuple #[.string ⟨(Lib.cut s p).1.toArray⟩,.string ⟨(Lib.cut s p).2.1.toArray⟩,.bool (Lib.cut s p).2.2])∧AR (fun _=>False) w w'):AQ P f ML:=by
 refine⟨fun _=>rfl,fun F g0 w args vargs hsh hsz hfr hok=>⟨fun _=>?_,?_⟩⟩
 ·obtain⟨s,p,_,rfl⟩:=dD hok;rfl
 ·obtain⟨s,p,hl,rfl⟩:=dD hok;have h0:=FD hfr (i:=0) (by simp);have h1:=FD hfr (i:=1) (by simp);rw[Kz hsz];generalize vargs.getD 0 undef=x at h0;generalize vargs.getD 1 undef=y at h1;cases h0;cases h1
  refine (hc s p w hl (hfr.tab.mono (AR.refl _ _) fun _ _ c=>c.elim)).mono fun e' w' ⟨he,hs⟩=>?_
  refine⟨_,g0,[],id,he,Jj hs ⟨_,rfl,rfl,fun j hj=>?_⟩ (fun i hi=>?_) (AEP rfl)⟩
  ·match j,hj with
   | 0,_=>exact .str
   | 1,_=>exact .str
   | 2,_=>exact .bool
  ·obtain⟨j,_,hj,hf⟩:=hi
   match j,hj with
   | 0,_=>exact absurd hf Bool.false_ne_true
   | 1,_=>exact absurd hf Bool.false_ne_true
   | 2,_=>exact absurd hf Bool.false_ne_true
def Uo(s p:List UInt8):Option (List (List UInt8)):=if (decide (s.length<4294967281)&&decide (1<=p.length))=true then some (Lib.split s p) else none
def gC:List AV->Rs
 | [.str s,.str p]=>⟨decide (s.length<4294967281)&&decide (1<=p.length),.fresh 1 (List.map AV.str (Lib.split s p)),[.any,.any]⟩
 | _=>Rs.bad
def KS:Ak:=⟨[.bor,.bor],true,gC⟩
theorem ep{a b:List UInt8}{y_:List (List UInt8)}(h:Uo a b=some y_):KS.F [.str a,.str b]=⟨true,.fresh 1 (List.map AV.str y_),[.any,.any]⟩:=by
 unfold Uo at h;split at h
 ·rename_i hc;cases h;show (⟨_,_,_⟩:Rs)=_;rw[hc]
 ·cases h
theorem ko:KS.modes=[.bor,.bor]:=rfl
theorem vQ:KS.flat=true:=rfl
attribute [go_sem] ko vQ
theorem VV{args:List AV}(h:(gC args).ok=true):∃ s p,s.length<4294967281∧1<=p.length∧args=[.str s,.str p]:=by
 unfold gC at h;split at h
 ·rename_i s p;have h:=Bool.and_eq_true_iff.1 h;exact⟨s,p,of_decide_eq_true h.1,of_decide_eq_true h.2,rfl⟩
 ·cases h
theorem tZ{S:Nat->Prop}{w:World}{T:TypeId}(ss:List (List UInt8)):GL S (w.alloc (.cells (ss.map fun l=>Value.string ⟨l.toArray⟩).toArray T)) w.heap.size ss.length 1 (List.map AV.str ss):=by
 have hget:∀ i (hi:i<ss.length),(List.map AV.str ss).getD i .any = .str ss[i]:=fun i hi=>by
  rw[gdE,List.getElem?_map,geE hi];rfl
 refine⟨Nat.le_refl _,by simp,fun i hi=>?_,fun hp=>⟨(ss.map fun l=>Value.string ⟨l.toArray⟩).toArray,T,(0,0),by show (w.heap.push _)[w.heap.size]? = _;simp,.inl rfl,by simp,fun i j hi hj=>?_⟩⟩
 ·rw[hget i (by simpa using hi)];exact⟨rfl,rfl⟩
 ·obtain rfl:j=0:=by omega
  have hi':i<ss.length:=by simpa using hi
  rw[hget i hi',Nat.mul_one,Nat.add_zero,agD];rw[List.getElem?_toArray,List.getElem?_map,geE hi'];exact .str
theorem gB{P:Program}{f:FuncId}{T:TypeId}(hc:∀ (s p:List UInt8) (w:World),s.length<4294967281->1<=p.length->GT (fun _=>False) w ->
  CZ P f #[.string ⟨s.toArray⟩,.string ⟨p.toArray⟩] w fun e w'=>e = .returned (.slice (some ⟨w.heap.size,0,none⟩) (Lib.split s p).length (Lib.split s p).length)∧w'=w.alloc (.cells ((Lib.split s p).map fun l=>Value.string ⟨l.toArray⟩).toArray T)):AQ P f KS:=by
 refine⟨fun _=>rfl,fun F g0 w args vargs hsh hsz hfr hok=>⟨fun _=>?_,?_⟩⟩
 ·obtain⟨s,p,_,_,rfl⟩:=VV hok;show Do (.fresh 1 (List.map AV.str (Lib.split s p)))=true;simp only[Do,EN,Bk (f:=AV.str) (fun _=>rfl)]
 ·obtain⟨s,p,hl,hp,rfl⟩:=VV hok;have h0:=FD hfr (i:=0) (by simp);have h1:=FD hfr (i:=1) (by simp);rw[Kz hsz];generalize vargs.getD 0 undef=x at h0;generalize vargs.getD 1 undef=y at h1;cases h0;cases h1
  refine (hc s p w hl hp (hfr.tab.mono (AR.refl _ _) fun _ _ c=>c.elim)).mono fun e' w' ⟨he,hs⟩=>?_
  subst hs
  have only:∀ k h,AK k [(0,(⟨1,List.map AV.str (Lib.split s p)⟩:Hm))]=some h->k=0∧h=⟨1,List.map AV.str (Lib.split s p)⟩:=by
   intro k h hg;simp only[AK,AO,beq_iff_eq] at hg;split at hg
   ·rename_i e;cases hg;exact⟨e.symm,rfl⟩
   ·cases hg
  refine⟨_,⟨fun _=>w.heap.size,fun _=>(Lib.split s p).length⟩,[(0,⟨1,List.map AV.str (Lib.split s p)⟩)],fun _=>0,he,⟨(AR.alloc (fun _=>False) w _).mono fun _ _ c=>c.elim,fun k h hg=>?_,fun k k' a b _=>?_,fun k a hF=>?_,fun k a=>.inl (Nat.le_refl _),⟨rfl,?_⟩,fun i j hi hj _=>?_,fun i j _ hj=>absurd hj (AEP rfl j),fun j hj=>absurd hj (AEP rfl j)⟩⟩
  ·obtain⟨rfl,rfl⟩:=only k h hg;exact tZ _
  ·obtain⟨⟨h,hg⟩,_⟩:=a;obtain⟨⟨h',hg'⟩,_⟩:=b;rw[(only k h hg).1,(only k' h' hg').1]
  ·exact absurd (hfr.fb _ hF) (Nat.lt_irrefl _)
  ·left;simp
  ·rw[hi.1,hj.1]
def mq(l:List (List UInt8))(p:List UInt8):Bool:=decide (l.length<=1048576)&&decide ((Lib.join l p).length<=140737488355328)
def VX(l:List (List UInt8))(p:List UInt8):Option (List UInt8):=if mq l p=true then some (Lib.join l p) else none
def Oi:List AV->Rs
 | [.sl sz els,.str p]=>match NI els with
  | some l=>⟨mq l p,.str (Lib.join l p),[.any,.any]⟩
  | none=>Rs.bad
 | _=>Rs.bad
def IY:Ak:=⟨[.bor,.bor],true,Oi⟩
theorem az{a:List (List UInt8)}{b:List UInt8}{y_:List UInt8}(h:VX a b=some y_):IY.F [.sl 1 (List.map AV.str a),.str b]=⟨true,.str y_,[.any,.any]⟩:=by
 unfold VX at h;split at h
 ·rename_i hc;cases h;show Oi [AV.sl 1 (List.map AV.str a),AV.str b]=_;unfold Oi;simp only[YV,hc]
 ·cases h
theorem AEc:IY.modes=[.bor,.bor]:=rfl
theorem ABE:IY.flat=true:=rfl
attribute [go_sem] AEc ABE
def CD(s:List UInt8):Int×Bool :=
 if (Lib.trimPrefix s [45]).length<1∨18<(Lib.trimPrefix s [45]).length then (0,false) else
 match Lib.parseIntB 64 s with
 | .ok v=>if Lib.itoa v=s then (v,true) else (0,false)
 | _=>(0,false)
def Jw(s:List UInt8):Option (Int×Bool):=if s.length<=281474976710656 then some (CD s) else none
def gE:List AV->Rs
 | [.str s]=>⟨decide (s.length<=281474976710656),.tup [.int .i64 (CD s).1,.bool (CD s).2],[.any]⟩
 | _=>Rs.bad
def Ik:Ak:=⟨[.bor],true,gE⟩
theorem NG{a:List UInt8}{y_:Int×Bool}(h:Jw a=some y_):Ik.F [.str a]=⟨true,.tup [.int .i64 y_.1,.bool y_.2],[.any]⟩:=by
 unfold Jw at h;split at h
 ·rename_i hc;cases h;show (⟨_,_,_⟩:Rs)=_;rw[decide_eq_true hc]
 ·cases h
theorem kq:Ik.modes=[.bor]:=rfl
theorem vS:Ik.flat=true:=rfl
attribute [go_sem] kq vS
theorem VW{args:List AV}(h:(gE args).ok=true):∃ s:List UInt8,s.length<=281474976710656∧args=[.str s]:=by
 unfold gE at h;split at h
 ·rename_i s;exact⟨s,of_decide_eq_true h,rfl⟩
 ·cases h
theorem MP{vargs:Array Value}(h:vargs.size=1):vargs = #[vargs.getD 0 undef]:=by
 obtain⟨l⟩:=vargs
 match l,h with
 | [a],_=>rfl
theorem gD{P:Program}{f:FuncId}(hc:∀ (s:List UInt8) (w:World),s.length<=281474976710656->GT (fun _=>False) w ->
  CZ P f #[.string ⟨s.toArray⟩] w fun e w'=>e = .returned (.tuple #[.int .i64 (CD s).1,.bool (CD s).2])∧AR (fun _=>False) w w'):AQ P f Ik:=by
 refine⟨fun _=>rfl,fun F g0 w args vargs hsh hsz hfr hok=>⟨fun _=>?_,?_⟩⟩
 ·obtain⟨s,_,rfl⟩:=VW hok;rfl
 ·obtain⟨s,hl,rfl⟩:=VW hok;have h0:=FD hfr (i:=0) (by simp);rw[MP hsz];generalize vargs.getD 0 undef=x at h0;cases h0
  refine (hc s w hl (hfr.tab.mono (AR.refl _ _) fun _ _ c=>c.elim)).mono fun e' w' ⟨he,hs⟩=>?_
  refine⟨_,g0,[],id,he,Jj hs ⟨_,rfl,rfl,fun j hj=>?_⟩ (fun i hi=>?_) (vI rfl)⟩
  ·match j,hj with
   | 0,_=>exact .int
   | 1,_=>exact .bool
  ·obtain⟨j,_,hj,hf⟩:=hi
   match j,hj with
   | 0,_=>exact absurd hf Bool.false_ne_true
   | 1,_=>exact absurd hf Bool.false_ne_true
def AFO(s:List UInt8)(n:Int):Bool:=(decide (0<=n)&&decide (n<=9223372036854775807))&&decide (s.length*n.toNat<=140737488355328)
def hRepeat(s:List UInt8)(n:Int):Option (List UInt8):=if AFO s n=true then some (Lib.repeatL s n.toNat) else none
def zd:List AV->Rs
 | [.str s,.int .i64 n]=>⟨AFO s n,.str (Lib.repeatL s n.toNat),[.any,.any]⟩
 | _=>Rs.bad
def da:Ak:=⟨[.bor,.bor],true,zd⟩
theorem vO:da.modes=[.bor,.bor]:=rfl
theorem oK:da.flat=true:=rfl
attribute [go_sem] vO oK
def vj(s p:List UInt8):Bool:=(decide (s.length<=9223372036854775807)&&decide (p.length<4294967281))&&p.all (fun b=>decide (b.toNat<128))
def hTrim(s p:List UInt8):Option (List UInt8):=if vj s p=true then some (Lib.trimS s p) else none
def AIy:List AV->Rs
 | [.str s,.str p]=>⟨vj s p,.str (Lib.trimS s p),[.any,.any]⟩
 | _=>Rs.bad
def pk:Ak:=⟨[.bor,.bor],true,AIy⟩
theorem AEY:pk.modes=[.bor,.bor]:=rfl
theorem ABA:pk.flat=true:=rfl
attribute [go_sem] AEY ABA
def jG(l:List Int):Bool:=decide (0<l.length)&&decide (l.length<=9223372036854775807)
def pc(l:List Int):Option Int:=if jG l=true then some (Lib.maxOf l) else none
def cz(l:List Int):Option Int:=if jG l=true then some (Lib.minOf l) else none
def xF(f:List Int->Int):List AV->Rs
 | [.sl sz els]=>match MI els with
  | some l=>⟨jG l,.int .i64 (f l),[.any]⟩
  | none=>Rs.bad
 | _=>Rs.bad
def Nk:Ak:=⟨[.bor],true,xF Lib.maxOf⟩
def Kt:Ak:=⟨[.bor],true,xF Lib.minOf⟩
theorem AAh{a:List Int}{y_:Int}(h:pc a=some y_):Nk.F [.sl 1 (List.map (AV.int .i64) a)]=⟨true,.int .i64 y_,[.any]⟩:=by
 unfold pc at h;split at h
 ·rename_i hc;cases h;show xF Lib.maxOf [AV.sl 1 (List.map (AV.int .i64) a)]=_;unfold xF;simp only[QW,hc]
 ·cases h
theorem kt{a:List Int}{y_:Int}(h:cz a=some y_):Kt.F [.sl 1 (List.map (AV.int .i64) a)]=⟨true,.int .i64 y_,[.any]⟩:=by
 unfold cz at h;split at h
 ·rename_i hc;cases h;show xF Lib.minOf [AV.sl 1 (List.map (AV.int .i64) a)]=_;unfold xF;simp only[QW,hc]
 ·cases h
theorem AEb:Nk.modes=[.bor]:=rfl
theorem ABD:Nk.flat=true:=rfl
theorem AEa:Kt.modes=[.bor]:=rfl
theorem ABC:Kt.flat=true:=rfl
attribute [go_sem] AEb ABD AEa ABC
theorem ox{f:List Int->Int}{args:List AV}(h:(xF f args).ok=true):∃ sz l,0<l.length∧l.length<=9223372036854775807∧args=[.sl sz (List.map (AV.int .i64) l)]∧(xF f args).r = .int .i64 (f l):=by
 unfold xF at h;split at h
 ·rename_i sz els;split at h
  ·rename_i l hl;have h':jG l=true:=h;have h:=Bool.and_eq_true_iff.1 h';refine⟨sz,l,of_decide_eq_true h.1,of_decide_eq_true h.2,by rw[cy hl],?_⟩;simp only[xF,hl]
  ·cases h
 ·cases h
structure Star where
 Name:List UInt8
 Ascend:Int
 Decl:Int
 Bright:Int
 Faint:Int
 deriving Inhabited,DecidableEq
def BV(x:Star):AV:=.agg ([.str x.Name,.int .i64 x.Ascend,.int .i64 x.Decl,.int .i64 x.Bright,.int .i64 x.Faint])
structure AD where
 Time:Int
 Star:List UInt8
 Observer:List UInt8
 Mag:Int
 Fainter:Bool
 deriving Inhabited,DecidableEq
def AN(x:AD):AV:=.agg ([.int .i64 x.Time,.str x.Star,.str x.Observer,.int .i64 x.Mag,.bool x.Fainter])
structure Bc where
 Stars:List Star
 Estimates:List AD
 Log:List UInt8
 deriving Inhabited,DecidableEq
def Cj(x:Bc):AV:=.agg ([.sl 5 (List.map BV x.Stars),.sl 5 (List.map AN x.Estimates),.str x.Log])
structure Ac where
 Day:Int
 What:List UInt8
 Value:Int
 deriving Inhabited,DecidableEq
def CF(x:Ac):AV:=.agg ([.int .i64 x.Day,.str x.What,.int .i64 x.Value])
structure HA where
 words_:List (List UInt8)
 numbers_:List Int
 fainter_:Bool
 wrong_:Bool
 deriving Inhabited,DecidableEq
def Iy(x:HA):AV:=.agg ([.sl 1 (List.map AV.str x.words_),.sl 1 (List.map (AV.int .i64) x.numbers_),.bool x.fainter_,.bool x.wrong_])
structure Aa where
 Time:Int
 Mag:Int
 deriving Inhabited,DecidableEq
def Aw(x:Aa):AV:=.agg ([.int .i64 x.Time,.int .i64 x.Mag])
structure If where
 From:Int
 To:Int
 Step:Int
 deriving Inhabited,DecidableEq
def LE(x:If):AV:=.agg ([.int .i64 x.From,.int .i64 x.To,.int .i64 x.Step])
structure AX where
 Epoch:Int
 Period:Int
 deriving Inhabited,DecidableEq
def Am(x:AX):AV:=.agg ([.int .i64 x.Epoch,.int .i64 x.Period])
structure Cq where
 code_:List UInt8
 at_:Int
 seed_:Int
 deriving Inhabited,DecidableEq
def Gp(x:Cq):AV:=.agg ([.sl 1 (List.map Dv x.code_),.int .i64 x.at_,.int .u64 x.seed_])
structure Hu where
 s_:List UInt8
 at_:Int
 stamp_:Int
 list_:List Ac
 deriving Inhabited,DecidableEq
def FE(x:Hu):AV:=.agg ([.str x.s_,.int .i64 x.at_,.int .i64 x.stamp_,.sl 3 (List.map CF x.list_)])
attribute [go_sem] BV AN Cj CF Iy Aw LE Am Gp FE
def DG (n:Int) (low:Int) (high:Int):Option Bool :=
 some ((decide (low<=n))&&(decide (n<=high)))
def Gd (s_:List UInt8) (t15:Int):Int->Option (Int⊕(Unit⊕Bool))
 | t16=>
  if (decide (t16<t15)) then
   ck (BC t16 s_.length) <|
   if ((!((decide (97<=((s_.getD t16.toNat 0).toNat:Int)))&&(decide (((s_.getD t16.toNat 0).toNat:Int)<=122))))&&((t16==0)||(!(((decide (48<=((s_.getD t16.toNat 0).toNat:Int)))&&(decide (((s_.getD t16.toNat 0).toNat:Int)<=57)))||(((s_.getD t16.toNat 0).toNat:Int)==45))))) then
    some (.inr (.inr false))
   else
    some (.inl (i64.wrap (t16+1)))
  else
   some (.inr (.inl ()))
def Bz (s_:List UInt8):Option Bool :=
 if ((decide ((s_.length:Int)<1))||(decide (12<(s_.length:Int)))) then
  some false
 else
  (AS (Gd s_ (s_.length:Int)) 0).bind fun y_5=>
  match y_5 with
  | .inl y_5a=>
   some true
  | .inr y_5b=>
   some y_5b
def Bb (m:Int):Option Bool :=
 (DG m (-2000) 20000).bind fun y_1=>
 some y_1
def JF (x:Star):Option Bool :=
 (DG x.Ascend 0 86399).bind fun y_1=>
 ck (!y_1||(DG x.Decl (-324000) 324000).isSome) <|
 (Bz x.Name).bind fun y_3=>
 ck (!(y_3&&(y_1&&((DG x.Decl (-324000) 324000).getD default)))||(Bb x.Bright).isSome) <|
 ck (!((y_3&&(y_1&&((DG x.Decl (-324000) 324000).getD default)))&&((Bb x.Bright).getD default))||(Bb x.Faint).isSome) <|
 some ((((y_3&&(y_1&&((DG x.Decl (-324000) 324000).getD default)))&&((Bb x.Bright).getD default))&&((Bb x.Faint).getD default))&&(decide (x.Bright<=x.Faint)))
def Cd (x:Star):Option (List UInt8) :=
 some x.Name
def Ad (list:List Star) (t15:List Star) (t16:Int):Int->Option (Int⊕(Unit⊕Bool))
 | t17=>
  if (decide (t17<t16)) then
   ck (BC t17 t15.length) <|
   (JF (t15.getD t17.toNat default)).bind fun y_4=>
   ck (!((!(!y_4))&&(decide (0<t17)))||BC (i64.wrap (t17-1)) list.length) <|
   ck (!((!(!y_4))&&(decide (0<t17)))||(Cd (list.getD (i64.wrap (t17-1)).toNat default)).isSome) <|
   ck (!((!(!y_4))&&(decide (0<t17)))||(Cd (t15.getD t17.toNat default)).isSome) <|
   if ((!y_4)||((decide (0<t17))&&(!(Op.bytesLess ((Cd (list.getD (i64.wrap (t17-1)).toNat default)).getD default) ((Cd (t15.getD t17.toNat default)).getD default))))) then
    some (.inr (.inr false))
   else
    some (.inl (i64.wrap (t17+1)))
  else
   some (.inr (.inl ()))
def BQ (list:List Star) (most:Int):Option Bool :=
 if (decide (most<(list.length:Int))) then
  some false
 else
  (AS (Ad list list (list.length:Int)) 0).bind fun y_9=>
  match y_9 with
  | .inl y_9a=>
   some true
  | .inr y_9b=>
   some y_9b
def Fa (list:List Star):Option Bool :=
 (BQ list 60).bind fun y_1=>
 some y_1
def EG (t:Int):Option Bool :=
 (DG t 0 10000000).bind fun y_1=>
 some y_1
def FY (e_:AD):Option Bool :=
 (EG e_.Time).bind fun y_1=>
 ck (!y_1||(Bz e_.Star).isSome) <|
 ck (!(y_1&&((Bz e_.Star).getD default))||(Bz e_.Observer).isSome) <|
 ck (!((y_1&&((Bz e_.Star).getD default))&&((Bz e_.Observer).getD default))||(Bb e_.Mag).isSome) <|
 some (((y_1&&((Bz e_.Star).getD default))&&((Bz e_.Observer).getD default))&&((Bb e_.Mag).getD default))
def HT (x:Int):Option Bool :=
 some (!(x==x))
def Ft (x:Int) (y:Int):Option Int :=
 (HT x).bind fun y_1=>
 (HT y).bind fun y_2=>
 if y_1 then
  if y_2 then
   some 0
  else
   some (-1)
 else
  if y_2 then
   some 1
  else
   if (decide (x<y)) then
    some (-1)
   else
    if (decide (y<x)) then
     some 1
    else
     some 0
def Dr (a:List UInt8) (b:List UInt8):Option Int :=
 (ANt a b).bind fun y_1=>
 some y_1
def HD (a:List UInt8) (b:List UInt8):Option Int :=
 (Dr a b).bind fun y_1=>
 some y_1
def Hh (zero:Int) (t6:List Int) (t7:Int):Int->Option (Int⊕(Unit⊕Int))
 | t8=>
  if (decide (t8<t7)) then
   ck (BC t8 t6.length) <|
   if (!((t6.getD t8.toNat default)==zero)) then
    some (.inr (.inr (t6.getD t8.toNat default)))
   else
    some (.inl (i64.wrap (t8+1)))
  else
   some (.inr (.inl ()))
def LX (vals:List Int):Option Int :=
 (AS (Hh 0 vals (vals.length:Int)) 0).bind fun y_4=>
 match y_4 with
 | .inl y_4a=>
  some 0
 | .inr y_4b=>
  some y_4b
def BT (a:AD) (b:AD):Option Int :=
 (Ft a.Time b.Time).bind fun y_1=>
 (HD a.Star b.Star).bind fun y_2=>
 (HD a.Observer b.Observer).bind fun y_3=>
 (LX ([y_1,y_2,y_3]:List Int)).bind fun y_4=>
 some y_4
def CU (list:List AD) (t8:List AD) (t9:Int):Int->Option (Int⊕(Unit⊕Bool))
 | t10=>
  if (decide (t10<t9)) then
   ck (BC t10 t8.length) <|
   (FY (t8.getD t10.toNat default)).bind fun y_4=>
   ck (!((!(!y_4))&&(decide (0<t10)))||BC (i64.wrap (t10-1)) list.length) <|
   ck (!((!(!y_4))&&(decide (0<t10)))||(BT (list.getD (i64.wrap (t10-1)).toNat default) (t8.getD t10.toNat default)).isSome) <|
   if ((!y_4)||((decide (0<t10))&&(decide (0<=((BT (list.getD (i64.wrap (t10-1)).toNat default) (t8.getD t10.toNat default)).getD default))))) then
    some (.inr (.inr false))
   else
    some (.inl (i64.wrap (t10+1)))
  else
   some (.inr (.inl ()))
def BK (list:List AD):Option Bool :=
 if (decide (100<(list.length:Int))) then
  some false
 else
  (AS (CU list list (list.length:Int)) 0).bind fun y_8=>
  match y_8 with
  | .inl y_8a=>
   some true
  | .inr y_8b=>
   some y_8b
def Io (x:Star) (t1:List UInt8):Option Bool :=
 some (x.Name==t1)
def Af (s_:List Star) (c:List UInt8) (t7:Int):Int->Option (Int⊕(Unit⊕Int))
 | t8=>
  if (decide (t8<t7)) then
   ck (BC t8 s_.length) <|
   (Io (s_.getD t8.toNat default) c).bind fun y_3=>
   if y_3 then
    some (.inr (.inr t8))
   else
    some (.inl (i64.wrap (t8+1)))
  else
   some (.inr (.inl ()))
def BJ (s_:List Star) (f_c0:List UInt8):Option Int :=
 (AS (Af s_ f_c0 (s_.length:Int)) 0).bind fun y_5=>
 match y_5 with
 | .inl y_5a=>
  some (-1)
 | .inr y_5b=>
  some y_5b
def BE (s_:List Star) (f_c0:List UInt8):Option Bool :=
 (BJ s_ f_c0).bind fun y_1=>
 some (decide (0<=y_1))
def Gw (list:List Star) (name:List UInt8):Option Bool :=
 (BE list name).bind fun y_1=>
 some y_1
def EQ (e_:Ac):Option Bool :=
 (DG e_.Day 0 100000).bind fun y_1=>
 ck (!y_1||(Bz e_.What).isSome) <|
 ck (!(y_1&&((Bz e_.What).getD default))||(DG e_.Value (-1000000) 1000000).isSome) <|
 some ((y_1&&((Bz e_.What).getD default))&&((DG e_.Value (-1000000) 1000000).getD default))
def IA (line:List UInt8):Option (Ac×Int×Bool) :=
 (Uo line ([32]:List UInt8)).bind fun y_1=>
 if (!((y_1.length:Int)==4)) then
  some ((Ac.mk 0 [] 0),0,false)
 else
  ck (BC 0 y_1.length) <|
  (Jw (y_1.getD 0 default)).bind fun y_4=>
  ck (BC 2 y_1.length) <|
  (Jw (y_1.getD 2 default)).bind fun y_6=>
  ck (BC 3 y_1.length) <|
  (Jw (y_1.getD 3 default)).bind fun y_8=>
  ck (BC 1 y_1.length) <|
  ck (!((y_4.2&&y_6.2)&&y_8.2)||(EQ (Ac.mk y_4.1 (y_1.getD 1 default) y_6.1)).isSome) <|
  some ((Ac.mk y_4.1 (y_1.getD 1 default) y_6.1),y_8.1,(((y_4.2&&y_6.2)&&y_8.2)&&((EQ (Ac.mk y_4.1 (y_1.getD 1 default) y_6.1)).getD default)))
def Hp (i:Int) (base:Int):Option (List UInt8) :=
 (ADz i base).bind fun y_1=>
 some y_1
def BP (n:Int):Option (List UInt8) :=
 (Hp n 10).bind fun y_1=>
 some y_1
def Ds (e_:Ac):Option (List UInt8) :=
 (BP e_.Day).bind fun y_1=>
 ck (DW y_1.length ([32]:List UInt8).length) <|
 ck (DW (y_1++([32]:List UInt8)).length e_.What.length) <|
 ck (DW ((y_1++([32]:List UInt8))++e_.What).length ([32]:List UInt8).length) <|
 (BP e_.Value).bind fun y_5=>
 ck (DW (((y_1++([32]:List UInt8))++e_.What)++([32]:List UInt8)).length y_5.length) <|
 some ((((y_1++([32]:List UInt8))++e_.What)++([32]:List UInt8))++y_5)
def KD (words:List UInt8) (t14:Int):(Int×Int)->Option ((Int×Int)⊕Int)
 | (sum,t15)=>
  if (decide (t15<t14)) then
   ck (BC t15 words.length) <|
   ck (nz 65521) <|
   some (.inl (((i64.wrap ((i64.wrap (31*sum))+((words.getD t15.toNat 0).toNat:Int))).tmod 65521),(i64.wrap (t15+1))))
  else
   some (.inr sum)
def Gv (before:Int) (e_:Ac):Option Int :=
 ck (nz 65521) <|
 (Ds e_).bind fun y_2=>
 (AS (KD y_2 (y_2.length:Int)) (((i64.wrap (before+23)).tmod 65521),0)).bind fun y_6=>
 some y_6
def EP (log:List UInt8):((List Ac)×Int×Int×Int)->Option (((List Ac)×Int×Int×Int)⊕((List Ac)×Int×Int))
 | (entries,used,last,day)=>
  ck (JG used (log.length:Int) log.length) <|
  (Vr (cut log used (log.length:Int)) ([10]:List UInt8)).bind fun y_2=>
  (IA y_2.1).bind fun y_3=>
  ck (!(!(((!y_2.2.2)||(!y_3.2.2))||(decide (y_3.1.Day<day))))||(Gv last y_3.1).isSome) <|
  if ((((!y_2.2.2)||(!y_3.2.2))||(decide (y_3.1.Day<day)))||(!(y_3.2.1==((Gv last y_3.1).getD default)))) then
   some (.inr (entries,used,last))
  else
   ck (EY (entries.length+([y_3.1]:List Ac).length) 32) <|
   some (.inl ((entries++([y_3.1]:List Ac)),(i64.wrap (used+(i64.wrap ((y_2.1.length:Int)+1)))),y_3.2.1,y_3.1.Day))
def Jc (log:List UInt8):Option ((List Ac)×Int×Int) :=
 (AS (EP log) (([]:List Ac),0,0,0)).bind fun y_7=>
 some (y_7.1,y_7.2.1,y_7.2.2)
def Hd (log:List UInt8):Option ((List Ac)×Int×Int) :=
 if (decide (4000<(log.length:Int))) then
  some (([]:List Ac),0,5)
 else
  (Jc log).bind fun y_2=>
  if (decide (y_2.2.1<(log.length:Int))) then
   some (([]:List Ac),0,8)
  else
   some (y_2.1,y_2.2.2,0)
def FA (log:List UInt8):Option ((List Ac)×Int) :=
 (Hd log).bind fun y_1=>
 some (y_1.1,y_1.2.2)
def EL (d:Bc) (t18:List AD) (t19:Int):Int->Option (Int⊕(Unit⊕Bool))
 | t20=>
  if (decide (t20<t19)) then
   ck (BC t20 t18.length) <|
   (Gw d.Stars ((t18.getD t20.toNat default).Star)).bind fun y_6=>
   if (!y_6) then
    some (.inr (.inr false))
   else
    some (.inl (i64.wrap (t20+1)))
  else
   some (.inr (.inl ()))
def Gc (d:Bc):Option Bool :=
 (Fa d.Stars).bind fun y_1=>
 ck (!(!(!y_1))||(BK d.Estimates).isSome) <|
 if ((!y_1)||(!((BK d.Estimates).getD default))) then
  some false
 else
  (AS (EL d d.Estimates (d.Estimates.length:Int)) 0).bind fun y_8=>
  match y_8 with
  | .inl y_8a=>
   (FA d.Log).bind fun y_9=>
   some (y_9.2==0)
  | .inr y_8b=>
   some y_8b
def DJ (list:List Star):Option (List Star) :=
 ck (EY (([]:List Star).length+list.length) 48) <|
 some (([]:List Star)++list)
def CS (list:List AD):Option (List AD) :=
 ck (EY (([]:List AD).length+list.length) 56) <|
 some (([]:List AD)++list)
def GG (code:Int):Option (List UInt8) :=
 if ((decide (code<0))||(decide ((([([111,107]:List UInt8),([105,110,118,97,108,105,100]:List UInt8),([114,97,110,103,101]:List UInt8),([110,111,116,45,102,111,117,110,100]:List UInt8),([101,120,105,115,116,115]:List UInt8),([102,117,108,108]:List UInt8),([115,116,97,116,101]:List UInt8),([115,121,110,116,97,120]:List UInt8),([102,111,114,109,97,116]:List UInt8),([99,108,97,115,104]:List UInt8),([99,108,111,117,100,121]:List UInt8)]:List (List UInt8)).length:Int)<=code))) then
  some ([]:List UInt8)
 else
  ck (BC code (([([111,107]:List UInt8),([105,110,118,97,108,105,100]:List UInt8),([114,97,110,103,101]:List UInt8),([110,111,116,45,102,111,117,110,100]:List UInt8),([101,120,105,115,116,115]:List UInt8),([102,117,108,108]:List UInt8),([115,116,97,116,101]:List UInt8),([115,121,110,116,97,120]:List UInt8),([102,111,114,109,97,116]:List UInt8),([99,108,97,115,104]:List UInt8),([99,108,111,117,100,121]:List UInt8)]:List (List UInt8)).length)) <|
  some (([([111,107]:List UInt8),([105,110,118,97,108,105,100]:List UInt8),([114,97,110,103,101]:List UInt8),([110,111,116,45,102,111,117,110,100]:List UInt8),([101,120,105,115,116,115]:List UInt8),([102,117,108,108]:List UInt8),([115,116,97,116,101]:List UInt8),([115,121,110,116,97,120]:List UInt8),([102,111,114,109,97,116]:List UInt8),([99,108,97,115,104]:List UInt8),([99,108,111,117,100,121]:List UInt8)]:List (List UInt8)).getD code.toNat default)
def BS (word:List UInt8):Option (List UInt8) :=
 if (word==([115,116,97,114]:List UInt8)) then
  some ([119,110,110,109,109]:List UInt8)
 else
  if (word==([101,115,116]:List UInt8)) then
   some ([110,119,119,102]:List UInt8)
  else
   if (word==([99,117,114,118,101]:List UInt8)) then
    some ([119]:List UInt8)
   else
    if (word==([97,109,112]:List UInt8)) then
     some ([119]:List UInt8)
    else
     if (word==([108,97,115,116]:List UInt8)) then
      some ([119]:List UInt8)
     else
      if (word==([98,101,115,116]:List UInt8)) then
       some ([119,110,110,110]:List UInt8)
      else
       if (word==([102,111,108,100]:List UInt8)) then
        some ([119,110]:List UInt8)
       else
        if (word==([112,97,105,114,115]:List UInt8)) then
         some ([110,110]:List UInt8)
        else
         if (word==([101,110,116,101,114]:List UInt8)) then
          some ([110,119,110]:List UInt8)
         else
          some ([]:List UInt8)
def Jd :Option (List (List UInt8)) :=
 some ([([97,109,112]:List UInt8),([98,101,115,116]:List UInt8),([99,117,114,118,101]:List UInt8),([101,110,116,101,114]:List UInt8),([101,115,116]:List UInt8),([102,111,108,100]:List UInt8),([108,97,115,116]:List UInt8),([108,111,103]:List UInt8),([112,97,105,114,115]:List UInt8),([115,116,97,114]:List UInt8)]:List (List UInt8))
def Bj (s_:List (List UInt8)) (v:List UInt8) (t7:Int):Int->Option (Int⊕(Unit⊕Int))
 | t8=>
  if (decide (t8<t7)) then
   ck (BC t8 s_.length) <|
   if (v==(s_.getD t8.toNat default)) then
    some (.inr (.inr t8))
   else
    some (.inl (i64.wrap (t8+1)))
  else
   some (.inr (.inl ()))
def DY (s_:List (List UInt8)) (v:List UInt8):Option Int :=
 (AS (Bj s_ v (s_.length:Int)) 0).bind fun y_4=>
 match y_4 with
 | .inl y_4a=>
  some (-1)
 | .inr y_4b=>
  some y_4b
def CQ (s_:List (List UInt8)) (v:List UInt8):Option Bool :=
 (DY s_ v).bind fun y_1=>
 some (decide (0<=y_1))
def Ct (s_:List UInt8) (prefix_:List UInt8):Option Bool :=
 ck (!(decide ((prefix_.length:Int)<=(s_.length:Int)))||JG 0 (prefix_.length:Int) s_.length) <|
 some ((decide ((prefix_.length:Int)<=(s_.length:Int)))&&((cut s_ 0 (prefix_.length:Int))==prefix_))
def Cu (s_:List UInt8) (prefix_:List UInt8):Option ((List UInt8)×Bool) :=
 (Ct s_ prefix_).bind fun y_1=>
 if (!y_1) then
  some (s_,false)
 else
  ck (JG (prefix_.length:Int) (s_.length:Int) s_.length) <|
  some ((cut s_ (prefix_.length:Int) (s_.length:Int)),true)
def DC (s_:List UInt8) (prefix_:List UInt8):Option ((List UInt8)×Bool) :=
 (Cu s_ prefix_).bind fun y_1=>
 some (y_1.1,y_1.2)
def EV (n:Int):Option Int :=
 if (decide (n<0)) then
  some (i64.wrap (0-n))
 else
  some n
def GX (digits:Int):(List UInt8)->Option ((List UInt8)⊕(List UInt8))
 | s_=>
  if (decide ((s_.length:Int)<digits)) then
   ck (DW ([48]:List UInt8).length s_.length) <|
   some (.inl (([48]:List UInt8)++s_))
  else
   some (.inr s_)
def IB (n:Int) (digits:Int):Option (List UInt8) :=
 (BP n).bind fun y_1=>
 (AS (GX digits) y_1).bind fun y_4=>
 some y_4
def Dz (m:Int):Option (List UInt8) :=
 (Bb m).bind fun y_1=>
 if (!y_1) then
  some ([]:List UInt8)
 else
  if (decide (m<0)) then
   (EV m).bind fun y_4=>
   ck (nz 1000) <|
   (BP (i64.wrap (y_4.tdiv 1000))).bind fun y_6=>
   ck (DW ([45]:List UInt8).length y_6.length) <|
   ck (DW (([45]:List UInt8)++y_6).length ([46]:List UInt8).length) <|
   (IB (y_4.tmod 1000) 3).bind fun y_9=>
   ck (DW ((([45]:List UInt8)++y_6)++([46]:List UInt8)).length y_9.length) <|
   some (((([45]:List UInt8)++y_6)++([46]:List UInt8))++y_9)
  else
   (EV m).bind fun y_11=>
   ck (nz 1000) <|
   (BP (i64.wrap (y_11.tdiv 1000))).bind fun y_13=>
   ck (DW ([]:List UInt8).length y_13.length) <|
   ck (DW (([]:List UInt8)++y_13).length ([46]:List UInt8).length) <|
   (IB (y_11.tmod 1000) 3).bind fun y_16=>
   ck (DW ((([]:List UInt8)++y_13)++([46]:List UInt8)).length y_16.length) <|
   some (((([]:List UInt8)++y_13)++([46]:List UInt8))++y_16)
def Fb (s_:List UInt8) (negative:Bool) (rest_:List UInt8) (t44:List Int) (t45:Int):(Int×Int)->Option ((Int×Int)⊕Int)
 | (m,t46)=>
  if (decide (t46<t45)) then
   ck (BC t46 t44.length) <|
   ck (BC t46 rest_.length) <|
   some (.inl ((i64.wrap (m+(i64.wrap ((t44.getD t46.toNat default)*(i64.wrap (IntKind.u8.wrap (((rest_.getD t46.toNat 0).toNat:Int)-48))))))),(i64.wrap (t46+1))))
  else
   some (.inr m)
def Ee (s_:List UInt8):Option (Int×Bool) :=
 (DC s_ ([45]:List UInt8)).bind fun y_1=>
 (Vr y_1.1 ([46]:List UInt8)).bind fun y_2=>
 (Jw y_2.1).bind fun y_3=>
 ck (!(!(!y_3.2))||(DG y_3.1 0 20).isSome) <|
 if (((!y_3.2)||(!((DG y_3.1 0 20).getD default)))||(!((y_2.2.1.length:Int)==3))) then
  some (0,false)
 else
  (AS (Fb s_ y_1.2 y_2.2.1 ([100,10,1]:List Int) (([100,10,1]:List Int).length:Int)) ((i64.wrap (y_3.1*1000)),0)).bind fun y_9=>
  if y_1.2 then
   (Dz (i64.wrap (0-y_9))).bind fun y_11=>
   if (!(y_11==s_)) then
    some (0,false)
   else
    some ((i64.wrap (0-y_9)),true)
  else
   (Dz y_9).bind fun y_13=>
   if (!(y_13==s_)) then
    some (0,false)
   else
    some (y_9,true)
def As (kinds:List UInt8):Nat->List (List UInt8)->List Int->Bool->Bool->Option (List Int×Bool×Bool)
 | _,[],ns,f,b=>some (ns,f,b)
 | i,w::r,ns,f,b=>
  ck (decide (i<kinds.length)) <|
  ck (decide (i+1<ns.length)) <|
  if (kinds.getD i 0==110)=true then
   (Jw w).bind fun y=>As kinds (i+1) r (ns.set (i+1) y.1) f (b || !y.2)
  else if (kinds.getD i 0==109)=true then
   (Ee w).bind fun y=>As kinds (i+1) r (ns.set (i+1) y.1) f (b || !y.2)
  else if (kinds.getD i 0==102)=true then
   (DC w [60]).bind fun z=>(Ee z.1).bind fun y=>As kinds (i+1) r (ns.set (i+1) y.1) z.2 (b || !y.2)
  else As kinds (i+1) r ns f b
def Cv (line:List UInt8):Option (HA×Bool) :=
 (Uo line [32]).bind fun words=>
 ck (decide (0<words.length)&&decide (words.length<=1099511627776)) <|
 (BS (words.getD 0 default)).bind fun kinds=>
 Jd.bind fun dw=>
 (CQ dw (words.getD 0 default)).bind fun c=>
 if (!c || !((words.length:Int)==(kinds.length:Int)+1)) then some (⟨[],[],false,false⟩,false) else
 (As kinds 0 (words.drop 1) (List.replicate words.length 0) false false).bind fun y=>
 some (⟨words,y.1,y.2.1,y.2.2⟩,true)
def Fo (list:List AD) (star:List UInt8):Option (AD×Int) :=
 (BK list).bind fun y=>
 if (!y) then some ((AD.mk 0 [] [] 0 false),1) else
 (Bz star).bind fun z=>
 if (!z) then some ((AD.mk 0 [] [] 0 false),2) else
 match list.reverse.find? (fun e=>e.Star==star) with
 | some e=>some (e,0)
 | none=>some ((AD.mk 0 [] [] 0 false),3)
def FZ (a:AD) (b:AD) (by_:Int):Option Bool :=
 if (a.Fainter&&b.Fainter) then
  some false
 else
  if a.Fainter then
   some (decide ((i64.wrap (b.Mag+by_))<a.Mag))
  else
   if b.Fainter then
    some (decide ((i64.wrap (a.Mag+by_))<b.Mag))
   else
    (EV (i64.wrap (a.Mag-b.Mag))).bind fun y_4=>
    some (decide (by_<y_4))
def Dd (i:Int) (k:Int) (t2:List AD) (t3:Int) (t4:Int):Option Bool :=
 ck (BC i t2.length) <|
 ck (BC k t2.length) <|
 ck (!(((t2.getD i.toNat default).Star)==((t2.getD k.toNat default).Star))||(EV (i64.wrap (((t2.getD i.toNat default).Time)-((t2.getD k.toNat default).Time)))).isSome) <|
 ck (!((((t2.getD i.toNat default).Star)==((t2.getD k.toNat default).Star))&&(decide (((EV (i64.wrap (((t2.getD i.toNat default).Time)-((t2.getD k.toNat default).Time)))).getD default)<=t3)))||(FZ (t2.getD i.toNat default) (t2.getD k.toNat default) t4).isSome) <|
 some (((((t2.getD i.toNat default).Star)==((t2.getD k.toNat default).Star))&&(decide (((EV (i64.wrap (((t2.getD i.toNat default).Time)-((t2.getD k.toNat default).Time)))).getD default)<=t3)))&&((FZ (t2.getD i.toNat default) (t2.getD k.toNat default) t4).getD default))
def BA (n:Int) (c:List AD) (c2:Int) (c3:Int) (i:Int) (t9:Int) (t10:Int):((List (List Int))×Int)->Option (((List (List Int))×Int)⊕(List (List Int)))
 | (out,k)=>
  if (decide (k<n)) then
   (Dd i k c c2 c3).bind fun y_3=>
   if y_3 then
    ck (EY (out.length+([([i,k]:List Int)]:List (List Int)).length) 24) <|
    some (.inl ((out++([([i,k]:List Int)]:List (List Int))),(i64.wrap (k+1))))
   else
    some (.inl (out,(i64.wrap (k+1))))
  else
   some (.inr out)
def BB (n:Int) (c:List AD) (c2:Int) (c3:Int) (t9:Int):((List (List Int))×Int)->Option (((List (List Int))×Int)⊕(List (List Int)))
 | (out,t10)=>
  if (decide (t10<t9)) then
   (AS (BA n c c2 c3 t10 t9 t10) (out,(i64.wrap (t10+1)))).bind fun y_6=>
   some (.inl (y_6,(i64.wrap (t10+1))))
  else
   some (.inr out)
def Bn (n:Int) (wanted_c0:List AD) (wanted_c1:Int) (wanted_c2:Int):Option (List (List Int)) :=
 (AS (BB n wanted_c0 wanted_c1 wanted_c2 n) (([]:List (List Int)),0)).bind fun y_7=>
 some y_7
def EX (list:List AD) (apart:Int) (by_:Int):Option ((List (List Int))×Int) :=
 (BK list).bind fun y_1=>
 if (!y_1) then
  some (([]:List (List Int)),1)
 else
  (DG apart 0 100000).bind fun y_3=>
  ck (!(!(!y_3))||(DG by_ 1 20000).isSome) <|
  if ((!y_3)||(!((DG by_ 1 20000).getD default))) then
   some (([]:List (List Int)),2)
  else
   (Bn (list.length:Int) list apart by_).bind fun y_6=>
   some (y_6,0)
def Ao (list:List Star) (x:Star):Int->Option (Int⊕Int)
 | k=>
  ck (!(decide (k<(list.length:Int)))||BC k list.length) <|
  ck (!(decide (k<(list.length:Int)))||(Cd (list.getD k.toNat default)).isSome) <|
  ck (!(decide (k<(list.length:Int)))||(Cd x).isSome) <|
  if ((decide (k<(list.length:Int)))&&(Op.bytesLess ((Cd (list.getD k.toNat default)).getD default) ((Cd x).getD default))) then
   some (.inl (i64.wrap (k+1)))
  else
   some (.inr k)
def By (list:List Star) (x:Star):Option (List Star) :=
 (AS (Ao list x) 0).bind fun y_5=>
 (DJ list).bind fun y_6=>
 (gF 48 y_6 y_5 ([x]:List Star)).bind fun y_7=>
 some y_7
def Jf (list:List Star) (x:Star):Option ((List Star)×Int) :=
 (Fa list).bind fun y_1=>
 if (!y_1) then
  some (([]:List Star),1)
 else
  (JF x).bind fun y_3=>
  if (!y_3) then
   some (([]:List Star),2)
  else
   (Gw list x.Name).bind fun y_5=>
   if y_5 then
    some (([]:List Star),4)
   else
    if ((list.length:Int)==60) then
     some (([]:List Star),5)
    else
     (By list x).bind fun y_8=>
     some (y_8,0)
def AJ (x:List AD) (target:AD) (n:Int):(Int×Int)->Option ((Int×Int)⊕Int)
 | (i,j)=>
  if (decide (i<j)) then
   ck (UT 1) <|
   ck (BC (i64.wrap ((u64.wrap (i64.wrap (i+j))).fdiv (2^(min 1 64)))) x.length) <|
   (BT (x.getD (i64.wrap ((u64.wrap (i64.wrap (i+j))).fdiv (2^(min 1 64)))).toNat default) target).bind fun y_4=>
   if (decide (y_4<0)) then
    some (.inl ((i64.wrap ((i64.wrap ((u64.wrap (i64.wrap (i+j))).fdiv (2^(min 1 64))))+1)),j))
   else
    some (.inl (i,(i64.wrap ((u64.wrap (i64.wrap (i+j))).fdiv (2^(min 1 64))))))
  else
   some (.inr i)
def AY (x:List AD) (target:AD):Option (Int×Bool) :=
 (AS (AJ x target (x.length:Int)) (0,(x.length:Int))).bind fun y_6=>
 ck (!(decide (y_6<(x.length:Int)))||BC y_6 x.length) <|
 ck (!(decide (y_6<(x.length:Int)))||(BT (x.getD y_6.toNat default) target).isSome) <|
 some (y_6,((decide (y_6<(x.length:Int)))&&(((BT (x.getD y_6.toNat default) target).getD default)==0)))
def Gi (list:List AD) (e_:AD):Option ((List AD)×Int) :=
 (BK list).bind fun y_1=>
 if (!y_1) then
  some (([]:List AD),1)
 else
  (FY e_).bind fun y_3=>
  if (!y_3) then
   some (([]:List AD),2)
  else
   (AY list e_).bind fun y_5=>
   if y_5.2 then
    some (([]:List AD),4)
   else
    if ((list.length:Int)==100) then
     some (([]:List AD),5)
    else
     (CS list).bind fun y_8=>
     (gF 56 y_8 y_5.1 ([e_]:List AD)).bind fun y_9=>
     some (y_9,0)
def KO (e_:Ac) (stamp:Int):Option (List UInt8) :=
 (Ds e_).bind fun y_1=>
 ck (DW y_1.length ([32]:List UInt8).length) <|
 (BP stamp).bind fun y_3=>
 ck (DW (y_1++([32]:List UInt8)).length y_3.length) <|
 ck (DW ((y_1++([32]:List UInt8))++y_3).length ([10]:List UInt8).length) <|
 some (((y_1++([32]:List UInt8))++y_3)++([10]:List UInt8))
def Ij (log:List UInt8) (e_:Ac):Option ((List UInt8)×Int) :=
 (Hd log).bind fun y_1=>
 if (!(y_1.2.2==0)) then
  some (([]:List UInt8),y_1.2.2)
 else
  (EQ e_).bind fun y_3=>
  if (!y_3) then
   some (([]:List UInt8),7)
  else
   ck (!(decide (0<(y_1.1.length:Int)))||BC (i64.wrap ((y_1.1.length:Int)-1)) y_1.1.length) <|
   if ((decide (0<(y_1.1.length:Int)))&&(decide (e_.Day<((y_1.1.getD (i64.wrap ((y_1.1.length:Int)-1)).toNat default).Day)))) then
    some (([]:List UInt8),6)
   else
    (Gv y_1.2.1 e_).bind fun y_7=>
    (KO e_ y_7).bind fun y_8=>
    ck (DW log.length y_8.length) <|
    if (decide (4000<((log++y_8).length:Int))) then
     some (([]:List UInt8),5)
    else
     some ((log++y_8),0)
def IT (e_:Ac) (t1:List UInt8):Option Bool :=
 some (e_.What==t1)
def BX (c:List UInt8) (t9:List Ac) (t10:Int):((List Int)×Int)->Option (((List Int)×Int)⊕(List Int))
 | (out,t11)=>
  if (decide (t11<t10)) then
   ck (BC t11 t9.length) <|
   (IT (t9.getD t11.toNat default) c).bind fun y_3=>
   if y_3 then
    ck (EY (out.length+([(t9.getD t11.toNat default).Value]:List Int).length) 8) <|
    some (.inl ((out++([(t9.getD t11.toNat default).Value]:List Int)),(i64.wrap (t11+1))))
   else
    some (.inl (out,(i64.wrap (t11+1))))
  else
   some (.inr out)
def Cl (entries:List Ac) (wanted_c0:List UInt8):Option (List Int) :=
 (AS (BX wanted_c0 entries (entries.length:Int)) (([]:List Int),0)).bind fun y_6=>
 some y_6
def Ii (log:List UInt8) (what:List UInt8):Option ((List Int)×Int) :=
 (FA log).bind fun y_1=>
 if (!(y_1.2==0)) then
  some (([]:List Int),y_1.2)
 else
  (Bz what).bind fun y_3=>
  if (!y_3) then
   some (([]:List Int),2)
  else
   (Cl y_1.1 what).bind fun y_5=>
   some (y_5,0)
def Fm (list:List Star):Option Int :=
 some (list.length:Int)
def Dy (list:List AD):Option Int :=
 some (list.length:Int)
def Dc (d:Bc):Option (List UInt8) :=
 (Fm d.Stars).bind fun y_1=>
 (BP y_1).bind fun y_2=>
 ck (DW y_2.length ([32,115,116,97,114,115,32]:List UInt8).length) <|
 (Dy d.Estimates).bind fun y_4=>
 (BP y_4).bind fun y_5=>
 ck (DW (y_2++([32,115,116,97,114,115,32]:List UInt8)).length y_5.length) <|
 ck (DW ((y_2++([32,115,116,97,114,115,32]:List UInt8))++y_5).length ([32,101,115,116,105,109,97,116,101,115]:List UInt8).length) <|
 some (((y_2++([32,115,116,97,114,115,32]:List UInt8))++y_5)++([32,101,115,116,105,109,97,116,101,115]:List UInt8))
def FW (line:List UInt8) (code:Int):Option ((List (List UInt8))×Int) :=
 some (([line]:List (List UInt8)),code)
def JD (t6:List Int) (t7:Int):(Int×Int)->Option ((Int×Int)⊕Int)
 | (n,t8)=>
  if (decide (t8<t7)) then
   ck (BC t8 t6.length) <|
   some (.inl ((i64.wrap (n+(t6.getD t8.toNat default))),(i64.wrap (t8+1))))
  else
   some (.inr n)
def Mr (list:List Int):Option Int :=
 (AS (JD list (list.length:Int)) (0,0)).bind fun y_3=>
 some y_3
def DU (d:Bc) (c:HA):Option ((List (List UInt8))×Int×Bc) :=
 ck (BC 0 c.words_.length) <|
 if ((c.words_.getD 0 default)==([115,116,97,114]:List UInt8)) then
  ck (BC 1 c.words_.length) <|
  ck (BC 2 c.numbers_.length) <|
  ck (BC 3 c.numbers_.length) <|
  ck (BC 4 c.numbers_.length) <|
  ck (BC 5 c.numbers_.length) <|
  (Jf d.Stars (Star.mk (c.words_.getD 1 default) (c.numbers_.getD 2 default) (c.numbers_.getD 3 default) (c.numbers_.getD 4 default) (c.numbers_.getD 5 default))).bind fun y_8=>
  (Dc (Bc.mk y_8.1 d.Estimates d.Log)).bind fun y_9=>
  (FW y_9 y_8.2).bind fun y_10=>
  some (y_10.1,y_10.2,(Bc.mk y_8.1 d.Estimates d.Log))
 else
  if ((c.words_.getD 0 default)==([101,115,116]:List UInt8)) then
   ck (BC 2 c.words_.length) <|
   (Gw d.Stars (c.words_.getD 2 default)).bind fun y_13=>
   if (!y_13) then
    some (([]:List (List UInt8)),3,d)
   else
    ck (BC 1 c.numbers_.length) <|
    ck (BC 3 c.words_.length) <|
    ck (BC 4 c.numbers_.length) <|
    (Gi d.Estimates (AD.mk (c.numbers_.getD 1 default) (c.words_.getD 2 default) (c.words_.getD 3 default) (c.numbers_.getD 4 default) c.fainter_)).bind fun y_18=>
    (Dc (Bc.mk d.Stars y_18.1 d.Log)).bind fun y_19=>
    (FW y_19 y_18.2).bind fun y_20=>
    some (y_20.1,y_20.2,(Bc.mk d.Stars y_18.1 d.Log))
  else
   ck (BC 1 c.numbers_.length) <|
   ck (BC 2 c.words_.length) <|
   ck (BC 3 c.numbers_.length) <|
   (Ij d.Log (Ac.mk (c.numbers_.getD 1 default) (c.words_.getD 2 default) (c.numbers_.getD 3 default))).bind fun y_24=>
   if (!(y_24.2==0)) then
    some (([]:List (List UInt8)),y_24.2,(Bc.mk d.Stars d.Estimates y_24.1))
   else
    (Ii y_24.1 (c.words_.getD 2 default)).bind fun y_26=>
    (Mr y_26.1).bind fun y_27=>
    (BP y_27).bind fun y_28=>
    (FW y_28 y_26.2).bind fun y_29=>
    some (y_29.1,y_29.2,(Bc.mk d.Stars d.Estimates y_24.1))
def Ip (e_:AD) (t1:List UInt8):Option Bool :=
 some ((e_.Star==t1)&&(!e_.Fainter))
def Au (c:List UInt8) (t9:List AD) (t10:Int):((List AD)×Int)->Option (((List AD)×Int)⊕(List AD))
 | (out,t11)=>
  if (decide (t11<t10)) then
   ck (BC t11 t9.length) <|
   (Ip (t9.getD t11.toNat default) c).bind fun y_3=>
   if y_3 then
    ck (EY (out.length+([(t9.getD t11.toNat default)]:List AD).length) 56) <|
    some (.inl ((out++([(t9.getD t11.toNat default)]:List AD)),(i64.wrap (t11+1))))
   else
    some (.inl (out,(i64.wrap (t11+1))))
  else
   some (.inr out)
def BO (list:List AD) (wanted_c0:List UInt8):Option (List AD) :=
 (AS (Au wanted_c0 list (list.length:Int)) (([]:List AD),0)).bind fun y_6=>
 some y_6
def IS (list:List Int):Option Int :=
 some (list.length:Int)
def Ei (a:Int) (b:Int):Option Int :=
 ck (nz b) <|
 if (decide ((a.tmod b)<0)) then
  some (i64.wrap ((i64.wrap (a.tdiv b))-1))
 else
  some (i64.wrap (a.tdiv b))
def Kp (num:Int) (den:Int):Option Int :=
 (Ei num den).bind fun y_1=>
 if (decide ((i64.wrap (den-(i64.wrap (num-(i64.wrap (y_1*den))))))<=(i64.wrap (num-(i64.wrap (y_1*den)))))) then
  some (i64.wrap (y_1+1))
 else
  some y_1
def Mt (list:List Int):Option Int :=
 (Mr list).bind fun y_1=>
 (IS list).bind fun y_2=>
 (Kp y_1 y_2).bind fun y_3=>
 some y_3
def ER (seen:List AD) (out:List Aa) (time:Int):(Int×(List Int))->Option ((Int×(List Int))⊕(Int×(List Int)))
 | (i,mags)=>
  ck (!(decide (i<(seen.length:Int)))||BC i seen.length) <|
  if ((decide (i<(seen.length:Int)))&&(((seen.getD i.toNat default).Time)==time)) then
   ck (BC i seen.length) <|
   ck (EY (mags.length+([(seen.getD i.toNat default).Mag]:List Int).length) 8) <|
   some (.inl ((i64.wrap (i+1)),(mags++([(seen.getD i.toNat default).Mag]:List Int))))
  else
   some (.inr (i,mags))
def Fd (seen:List AD):((List Aa)×Int)->Option (((List Aa)×Int)⊕(List Aa))
 | (out,i)=>
  if (decide (i<(seen.length:Int))) then
   ck (BC i seen.length) <|
   (AS (ER seen out ((seen.getD i.toNat default).Time)) (i,([]:List Int))).bind fun y_12=>
   (Mt y_12.2).bind fun y_13=>
   ck (EY (out.length+([(Aa.mk ((seen.getD i.toNat default).Time) y_13)]:List Aa).length) 16) <|
   some (.inl ((out++([(Aa.mk ((seen.getD i.toNat default).Time) y_13)]:List Aa)),y_12.1))
  else
   some (.inr out)
def Je (list:List AD) (star:List UInt8):Option ((List Aa)×Int) :=
 (BK list).bind fun y_1=>
 if (!y_1) then
  some (([]:List Aa),1)
 else
  (Bz star).bind fun y_3=>
  if (!y_3) then
   some (([]:List Aa),2)
  else
   (BO list star).bind fun y_5=>
   (AS (Fd y_5) (([]:List Aa),0)).bind fun y_15=>
   some (y_15,0)
def DO (curve:List Aa) (t8:List Aa) (t9:Int):Int->Option (Int⊕(Unit⊕Bool))
 | t10=>
  if (decide (t10<t9)) then
   ck (BC t10 t8.length) <|
   (EG ((t8.getD t10.toNat default).Time)).bind fun y_4=>
   ck (!(!(!y_4))||(Bb ((t8.getD t10.toNat default).Mag)).isSome) <|
   ck (!((!((!y_4)||(!((Bb ((t8.getD t10.toNat default).Mag)).getD default))))&&(decide (0<t10)))||BC (i64.wrap (t10-1)) curve.length) <|
   if (((!y_4)||(!((Bb ((t8.getD t10.toNat default).Mag)).getD default)))||((decide (0<t10))&&(decide (((t8.getD t10.toNat default).Time)<=((curve.getD (i64.wrap (t10-1)).toNat default).Time))))) then
    some (.inr (.inr false))
   else
    some (.inl (i64.wrap (t10+1)))
  else
   some (.inr (.inl ()))
def Dj (curve:List Aa):Option Bool :=
 if (decide (100<(curve.length:Int))) then
  some false
 else
  (AS (DO curve curve (curve.length:Int)) 0).bind fun y_8=>
  match y_8 with
  | .inl y_8a=>
   some true
  | .inr y_8b=>
   some y_8b
def Eu (x:If):Option Bool :=
 (DG x.From 1 1000000).bind fun y_1=>
 ck (!(!(!y_1))||(DG x.To x.From 1000000).isSome) <|
 ck (!(!((!y_1)||(!((DG x.To x.From 1000000).getD default))))||(DG x.Step 1 1000000).isSome) <|
 if (((!y_1)||(!((DG x.To x.From 1000000).getD default)))||(!((DG x.Step 1 1000000).getD default))) then
  some false
 else
  ck (nz x.Step) <|
  some (decide ((i64.wrap ((i64.wrap ((i64.wrap (x.To-x.From)).tdiv x.Step))+1))<=500))
def Im (curve:List Aa) (x:If) (least:Int):Option Int :=
 (Dj curve).bind fun y_1=>
 ck (!(!(!y_1))||(Eu x).isSome) <|
 if ((!y_1)||(!((Eu x).getD default))) then
  some 1
 else
  if (decide (40<(curve.length:Int))) then
   some 5
  else
   if (decide ((curve.length:Int)<least)) then
    some 3
   else
    some 0
def Cw (x:If):((List Int)×Int)->Option (((List Int)×Int)⊕(List Int))
 | (out,p)=>
  if (decide (p<=x.To)) then
   ck (EY (out.length+([p]:List Int).length) 8) <|
   some (.inl ((out++([p]:List Int)),(i64.wrap (p+x.Step))))
  else
   some (.inr out)
def EW (x:If):Option (List Int) :=
 (AS (Cw x) (([]:List Int),x.From)).bind fun y_3=>
 some y_3
def In (t0:Int):Option Bool :=
 some true
def BM (t8:Int):((List Int)×Int)->Option (((List Int)×Int)⊕(List Int))
 | (out,t9)=>
  if (decide (t9<t8)) then
   (In t9).bind fun y_2=>
   if y_2 then
    ck (EY (out.length+([t9]:List Int).length) 8) <|
    some (.inl ((out++([t9]:List Int)),(i64.wrap (t9+1))))
   else
    some (.inl (out,(i64.wrap (t9+1))))
  else
   some (.inr out)
def Bi (n:Int):Option (List Int) :=
 (AS (BM n) (([]:List Int),0)).bind fun y_5=>
 some y_5
def Of (a:Int) (b:Int):Option Int :=
 (Ei a b).bind fun y_1=>
 some (i64.wrap (a-(i64.wrap (y_1*b))))
def Fp (e_:AX) (time:Int):Option Int :=
 (Of (i64.wrap (time-e_.Epoch)) e_.Period).bind fun y_1=>
 some y_1
def EK (i:Int) (t1:AX) (t2:List Aa):Option Int :=
 ck (BC i t2.length) <|
 (Fp t1 ((t2.getD i.toNat default).Time)).bind fun y_2=>
 some y_2
def Cr (a:Int) (b:Int) (t2_0:AX) (t2_1:List Aa):Option Int :=
 (EK a t2_0 t2_1).bind fun y_1=>
 (EK b t2_0 t2_1).bind fun y_2=>
 if (!(y_1==y_2)) then
  if (decide (y_1<y_2)) then
   some (-1)
  else
   some 1
 else
  some 0
def Ai (a:Int) (b:Int) (c:AX) (c2:List Aa) (i:Int):((List Int)×Int)->Option (((List Int)×Int)⊕(List Int))
 | (data,j)=>
  ck (!(decide (a<j))||BC j data.length) <|
  ck (!(decide (a<j))||BC (i64.wrap (j-1)) data.length) <|
  ck (!(decide (a<j))||(Cr (data.getD j.toNat default) (data.getD (i64.wrap (j-1)).toNat default) c c2).isSome) <|
  if ((decide (a<j))&&(decide (((Cr (data.getD j.toNat default) (data.getD (i64.wrap (j-1)).toNat default) c c2).getD default)<0))) then
   ck (BC (i64.wrap (j-1)) data.length) <|
   ck (BC j data.length) <|
   some (.inl (((data.set j.toNat (data.getD (i64.wrap (j-1)).toNat default)).set ((i64.wrap (j-1)).toNat) (data.getD j.toNat default)),(i64.wrap (j-1))))
  else
   some (.inr data)
def Aj (a:Int) (b:Int) (c:AX) (c2:List Aa):((List Int)×Int)->Option (((List Int)×Int)⊕(List Int))
 | (data,i)=>
  if (decide (i<b)) then
   (AS (Ai a b c c2 i) (data,i)).bind fun y_9=>
   some (.inl (y_9,(i64.wrap (i+1))))
  else
   some (.inr data)
def Al (data:List Int) (a:Int) (b:Int) (cmp_c0_f_0:AX) (cmp_c0_f_1:List Aa):Option (List Int) :=
 (AS (Aj a b cmp_c0_f_0 cmp_c0_f_1) (data,(i64.wrap (a+1)))).bind fun y_10=>
 ck (y_10.length==data.length) <|
 some y_10
def Bl (a:Int) (b:Int) (n:Int):((List Int)×Int)->Option (((List Int)×Int)⊕(List Int))
 | (data,i)=>
  if (decide (i<n)) then
   ck (BC (i64.wrap (b+i)) data.length) <|
   ck (BC (i64.wrap (a+i)) data.length) <|
   some (.inl (((data.set ((i64.wrap (a+i)).toNat) (data.getD (i64.wrap (b+i)).toNat default)).set ((i64.wrap (b+i)).toNat) (data.getD (i64.wrap (a+i)).toNat default)),(i64.wrap (i+1))))
  else
   some (.inr data)
def BH (data:List Int) (a:Int) (b:Int) (n:Int) (cmp_c0_f_0:AX) (cmp_c0_f_1:List Aa):Option (List Int) :=
 (AS (Bl a b n) (data,0)).bind fun y_5=>
 ck (y_5.length==data.length) <|
 some y_5
def CB (m:Int) (c:AX) (c2:List Aa):((List Int)×Int×Int)->Option (((List Int)×Int×Int)⊕((List Int)×Int))
 | (data,i,j)=>
  if (!(i==j)) then
   if (decide (j<i)) then
    (BH data (i64.wrap (m-i)) m j c c2).bind fun y_3=>
    some (.inl (y_3,(i64.wrap (i-j)),j))
   else
    (BH data (i64.wrap (m-i)) (i64.wrap ((i64.wrap (m+j))-i)) i c c2).bind fun y_4=>
    some (.inl (y_4,i,(i64.wrap (j-i))))
  else
   some (.inr (data,i))
def Bf (data:List Int) (a:Int) (m:Int) (b:Int) (cmp_c0_f_0:AX) (cmp_c0_f_1:List Aa):Option (List Int) :=
 (AS (CB m cmp_c0_f_0 cmp_c0_f_1) (data,(i64.wrap (m-a)),(i64.wrap (b-m)))).bind fun y_5=>
 (BH y_5.1 (i64.wrap (m-y_5.2)) m y_5.2 cmp_c0_f_0 cmp_c0_f_1).bind fun y_6=>
 ck (y_6.length==data.length) <|
 some y_6
def Bu (data:List Int) (a:Int) (c:AX) (c2:List Aa):(Int×Int)->Option ((Int×Int)⊕Int)
 | (i,j)=>
  if (decide (i<j)) then
   ck (UT 1) <|
   ck (BC (i64.wrap ((u64.wrap (i64.wrap (i+j))).fdiv (2^(min 1 64)))) data.length) <|
   ck (BC a data.length) <|
   (Cr (data.getD (i64.wrap ((u64.wrap (i64.wrap (i+j))).fdiv (2^(min 1 64)))).toNat default) (data.getD a.toNat default) c c2).bind fun y_6=>
   if (decide (y_6<0)) then
    some (.inl ((i64.wrap ((i64.wrap ((u64.wrap (i64.wrap (i+j))).fdiv (2^(min 1 64))))+1)),j))
   else
    some (.inl (i,(i64.wrap ((u64.wrap (i64.wrap (i+j))).fdiv (2^(min 1 64))))))
  else
   some (.inr i)
def Bt (i:Int):((List Int)×Int)->Option (((List Int)×Int)⊕(List Int))
 | (data,k)=>
  if (decide (k<(i64.wrap (i-1)))) then
   ck (BC (i64.wrap (k+1)) data.length) <|
   ck (BC k data.length) <|
   some (.inl (((data.set k.toNat (data.getD (i64.wrap (k+1)).toNat default)).set ((i64.wrap (k+1)).toNat) (data.getD k.toNat default)),(i64.wrap (k+1))))
  else
   some (.inr data)
def Br (data:List Int) (m:Int) (c:AX) (c2:List Aa):(Int×Int)->Option ((Int×Int)⊕Int)
 | (i,j)=>
  if (decide (i<j)) then
   ck (UT 1) <|
   ck (BC m data.length) <|
   ck (BC (i64.wrap ((u64.wrap (i64.wrap (i+j))).fdiv (2^(min 1 64)))) data.length) <|
   (Cr (data.getD m.toNat default) (data.getD (i64.wrap ((u64.wrap (i64.wrap (i+j))).fdiv (2^(min 1 64)))).toNat default) c c2).bind fun y_20=>
   if (!(decide (y_20<0))) then
    some (.inl ((i64.wrap ((i64.wrap ((u64.wrap (i64.wrap (i+j))).fdiv (2^(min 1 64))))+1)),j))
   else
    some (.inl (i,(i64.wrap ((u64.wrap (i64.wrap (i+j))).fdiv (2^(min 1 64))))))
  else
   some (.inr i)
def Bq (i:Int):((List Int)×Int)->Option (((List Int)×Int)⊕(List Int))
 | (data,k)=>
  if (decide (i<k)) then
   ck (BC (i64.wrap (k-1)) data.length) <|
   ck (BC k data.length) <|
   some (.inl (((data.set k.toNat (data.getD (i64.wrap (k-1)).toNat default)).set ((i64.wrap (k-1)).toNat) (data.getD k.toNat default)),(i64.wrap (k-1))))
  else
   some (.inr data)
def Bp (data:List Int) (a:Int) (m:Int) (b:Int) (c:AX) (c2:List Aa) (mid:Int) (n:Int) (p:Int):(Int×Int)->Option ((Int×Int)⊕Int)
 | (start,r)=>
  if (decide (start<r)) then
   ck (UT 1) <|
   ck (BC (i64.wrap (p-(i64.wrap ((u64.wrap (i64.wrap (start+r))).fdiv (2^(min 1 64)))))) data.length) <|
   ck (BC (i64.wrap ((u64.wrap (i64.wrap (start+r))).fdiv (2^(min 1 64)))) data.length) <|
   (Cr (data.getD (i64.wrap (p-(i64.wrap ((u64.wrap (i64.wrap (start+r))).fdiv (2^(min 1 64)))))).toNat default) (data.getD (i64.wrap ((u64.wrap (i64.wrap (start+r))).fdiv (2^(min 1 64)))).toNat default) c c2).bind fun y_35=>
   if (!(decide (y_35<0))) then
    some (.inl ((i64.wrap ((i64.wrap ((u64.wrap (i64.wrap (start+r))).fdiv (2^(min 1 64))))+1)),r))
   else
    some (.inl (start,(i64.wrap ((u64.wrap (i64.wrap (start+r))).fdiv (2^(min 1 64))))))
  else
   some (.inr start)
def Bo (data:List Int) (a:Int) (m:Int) (b:Int) (c:AX) (c2:List Aa) (mid:Int) (n:Int) (p:Int):(Int×Int)->Option ((Int×Int)⊕Int)
 | (start,r)=>
  if (decide (start<r)) then
   ck (UT 1) <|
   ck (BC (i64.wrap (p-(i64.wrap ((u64.wrap (i64.wrap (start+r))).fdiv (2^(min 1 64)))))) data.length) <|
   ck (BC (i64.wrap ((u64.wrap (i64.wrap (start+r))).fdiv (2^(min 1 64)))) data.length) <|
   (Cr (data.getD (i64.wrap (p-(i64.wrap ((u64.wrap (i64.wrap (start+r))).fdiv (2^(min 1 64)))))).toNat default) (data.getD (i64.wrap ((u64.wrap (i64.wrap (start+r))).fdiv (2^(min 1 64)))).toNat default) c c2).bind fun y_63=>
   if (!(decide (y_63<0))) then
    some (.inl ((i64.wrap ((i64.wrap ((u64.wrap (i64.wrap (start+r))).fdiv (2^(min 1 64))))+1)),r))
   else
    some (.inl (start,(i64.wrap ((u64.wrap (i64.wrap (start+r))).fdiv (2^(min 1 64))))))
  else
   some (.inr start)
def AM:Nat->(List Int)->Int->Int->Int->AX->(List Aa)->Option (List Int)
 | 0,_,_,_,_,_,_=>none
 | n_+1,data,a,m,b,cmp_c0_f_0,cmp_c0_f_1=>
  if ((i64.wrap (m-a))==1) then
   (AS (Bu data a cmp_c0_f_0 cmp_c0_f_1) (m,b)).bind fun y_8=>
   (AS (Bt y_8) (data,a)).bind fun y_13=>
   ck (y_13.length==data.length) <|
   some y_13
  else
   if ((i64.wrap (b-m))==1) then
    (AS (Br data m cmp_c0_f_0 cmp_c0_f_1) (a,m)).bind fun y_22=>
    (AS (Bq y_22) (data,m)).bind fun y_27=>
    ck (y_27.length==data.length) <|
    some y_27
   else
    ck (UT 1) <|
    if (decide ((i64.wrap ((u64.wrap (i64.wrap (a+b))).fdiv (2^(min 1 64))))<m)) then
     (AS (Bp data a m b cmp_c0_f_0 cmp_c0_f_1 (i64.wrap ((u64.wrap (i64.wrap (a+b))).fdiv (2^(min 1 64)))) (i64.wrap ((i64.wrap ((u64.wrap (i64.wrap (a+b))).fdiv (2^(min 1 64))))+m)) (i64.wrap ((i64.wrap ((i64.wrap ((u64.wrap (i64.wrap (a+b))).fdiv (2^(min 1 64))))+m))-1))) ((i64.wrap ((i64.wrap ((i64.wrap ((u64.wrap (i64.wrap (a+b))).fdiv (2^(min 1 64))))+m))-b)),(i64.wrap ((u64.wrap (i64.wrap (a+b))).fdiv (2^(min 1 64)))))).bind fun y_37=>
     if ((decide (y_37<m))&&(decide (m<(i64.wrap ((i64.wrap ((i64.wrap ((u64.wrap (i64.wrap (a+b))).fdiv (2^(min 1 64))))+m))-y_37))))) then
      (Bf data y_37 m (i64.wrap ((i64.wrap ((i64.wrap ((u64.wrap (i64.wrap (a+b))).fdiv (2^(min 1 64))))+m))-y_37)) cmp_c0_f_0 cmp_c0_f_1).bind fun y_39=>
      if ((decide (a<y_37))&&(decide (y_37<(i64.wrap ((u64.wrap (i64.wrap (a+b))).fdiv (2^(min 1 64))))))) then
       (AM n_ y_39 a y_37 (i64.wrap ((u64.wrap (i64.wrap (a+b))).fdiv (2^(min 1 64)))) cmp_c0_f_0 cmp_c0_f_1).bind fun y_41=>
       if ((decide ((i64.wrap ((u64.wrap (i64.wrap (a+b))).fdiv (2^(min 1 64))))<(i64.wrap ((i64.wrap ((i64.wrap ((u64.wrap (i64.wrap (a+b))).fdiv (2^(min 1 64))))+m))-y_37))))&&(decide ((i64.wrap ((i64.wrap ((i64.wrap ((u64.wrap (i64.wrap (a+b))).fdiv (2^(min 1 64))))+m))-y_37))<b))) then
        (AM n_ y_41 (i64.wrap ((u64.wrap (i64.wrap (a+b))).fdiv (2^(min 1 64)))) (i64.wrap ((i64.wrap ((i64.wrap ((u64.wrap (i64.wrap (a+b))).fdiv (2^(min 1 64))))+m))-y_37)) b cmp_c0_f_0 cmp_c0_f_1).bind fun y_43=>
        ck (y_43.length==data.length) <|
        some y_43
       else
        ck (y_41.length==data.length) <|
        some y_41
      else
       if ((decide ((i64.wrap ((u64.wrap (i64.wrap (a+b))).fdiv (2^(min 1 64))))<(i64.wrap ((i64.wrap ((i64.wrap ((u64.wrap (i64.wrap (a+b))).fdiv (2^(min 1 64))))+m))-y_37))))&&(decide ((i64.wrap ((i64.wrap ((i64.wrap ((u64.wrap (i64.wrap (a+b))).fdiv (2^(min 1 64))))+m))-y_37))<b))) then
        (AM n_ y_39 (i64.wrap ((u64.wrap (i64.wrap (a+b))).fdiv (2^(min 1 64)))) (i64.wrap ((i64.wrap ((i64.wrap ((u64.wrap (i64.wrap (a+b))).fdiv (2^(min 1 64))))+m))-y_37)) b cmp_c0_f_0 cmp_c0_f_1).bind fun y_47=>
        ck (y_47.length==data.length) <|
        some y_47
       else
        ck (y_39.length==data.length) <|
        some y_39
     else
      if ((decide (a<y_37))&&(decide (y_37<(i64.wrap ((u64.wrap (i64.wrap (a+b))).fdiv (2^(min 1 64))))))) then
       (AM n_ data a y_37 (i64.wrap ((u64.wrap (i64.wrap (a+b))).fdiv (2^(min 1 64)))) cmp_c0_f_0 cmp_c0_f_1).bind fun y_51=>
       if ((decide ((i64.wrap ((u64.wrap (i64.wrap (a+b))).fdiv (2^(min 1 64))))<(i64.wrap ((i64.wrap ((i64.wrap ((u64.wrap (i64.wrap (a+b))).fdiv (2^(min 1 64))))+m))-y_37))))&&(decide ((i64.wrap ((i64.wrap ((i64.wrap ((u64.wrap (i64.wrap (a+b))).fdiv (2^(min 1 64))))+m))-y_37))<b))) then
        (AM n_ y_51 (i64.wrap ((u64.wrap (i64.wrap (a+b))).fdiv (2^(min 1 64)))) (i64.wrap ((i64.wrap ((i64.wrap ((u64.wrap (i64.wrap (a+b))).fdiv (2^(min 1 64))))+m))-y_37)) b cmp_c0_f_0 cmp_c0_f_1).bind fun y_53=>
        ck (y_53.length==data.length) <|
        some y_53
       else
        ck (y_51.length==data.length) <|
        some y_51
      else
       if ((decide ((i64.wrap ((u64.wrap (i64.wrap (a+b))).fdiv (2^(min 1 64))))<(i64.wrap ((i64.wrap ((i64.wrap ((u64.wrap (i64.wrap (a+b))).fdiv (2^(min 1 64))))+m))-y_37))))&&(decide ((i64.wrap ((i64.wrap ((i64.wrap ((u64.wrap (i64.wrap (a+b))).fdiv (2^(min 1 64))))+m))-y_37))<b))) then
        (AM n_ data (i64.wrap ((u64.wrap (i64.wrap (a+b))).fdiv (2^(min 1 64)))) (i64.wrap ((i64.wrap ((i64.wrap ((u64.wrap (i64.wrap (a+b))).fdiv (2^(min 1 64))))+m))-y_37)) b cmp_c0_f_0 cmp_c0_f_1).bind fun y_57=>
        ck (y_57.length==data.length) <|
        some y_57
       else
        some data
    else
     (AS (Bo data a m b cmp_c0_f_0 cmp_c0_f_1 (i64.wrap ((u64.wrap (i64.wrap (a+b))).fdiv (2^(min 1 64)))) (i64.wrap ((i64.wrap ((u64.wrap (i64.wrap (a+b))).fdiv (2^(min 1 64))))+m)) (i64.wrap ((i64.wrap ((i64.wrap ((u64.wrap (i64.wrap (a+b))).fdiv (2^(min 1 64))))+m))-1))) (a,m)).bind fun y_65=>
     if ((decide (y_65<m))&&(decide (m<(i64.wrap ((i64.wrap ((i64.wrap ((u64.wrap (i64.wrap (a+b))).fdiv (2^(min 1 64))))+m))-y_65))))) then
      (Bf data y_65 m (i64.wrap ((i64.wrap ((i64.wrap ((u64.wrap (i64.wrap (a+b))).fdiv (2^(min 1 64))))+m))-y_65)) cmp_c0_f_0 cmp_c0_f_1).bind fun y_67=>
      if ((decide (a<y_65))&&(decide (y_65<(i64.wrap ((u64.wrap (i64.wrap (a+b))).fdiv (2^(min 1 64))))))) then
       (AM n_ y_67 a y_65 (i64.wrap ((u64.wrap (i64.wrap (a+b))).fdiv (2^(min 1 64)))) cmp_c0_f_0 cmp_c0_f_1).bind fun y_69=>
       if ((decide ((i64.wrap ((u64.wrap (i64.wrap (a+b))).fdiv (2^(min 1 64))))<(i64.wrap ((i64.wrap ((i64.wrap ((u64.wrap (i64.wrap (a+b))).fdiv (2^(min 1 64))))+m))-y_65))))&&(decide ((i64.wrap ((i64.wrap ((i64.wrap ((u64.wrap (i64.wrap (a+b))).fdiv (2^(min 1 64))))+m))-y_65))<b))) then
        (AM n_ y_69 (i64.wrap ((u64.wrap (i64.wrap (a+b))).fdiv (2^(min 1 64)))) (i64.wrap ((i64.wrap ((i64.wrap ((u64.wrap (i64.wrap (a+b))).fdiv (2^(min 1 64))))+m))-y_65)) b cmp_c0_f_0 cmp_c0_f_1).bind fun y_71=>
        ck (y_71.length==data.length) <|
        some y_71
       else
        ck (y_69.length==data.length) <|
        some y_69
      else
       if ((decide ((i64.wrap ((u64.wrap (i64.wrap (a+b))).fdiv (2^(min 1 64))))<(i64.wrap ((i64.wrap ((i64.wrap ((u64.wrap (i64.wrap (a+b))).fdiv (2^(min 1 64))))+m))-y_65))))&&(decide ((i64.wrap ((i64.wrap ((i64.wrap ((u64.wrap (i64.wrap (a+b))).fdiv (2^(min 1 64))))+m))-y_65))<b))) then
        (AM n_ y_67 (i64.wrap ((u64.wrap (i64.wrap (a+b))).fdiv (2^(min 1 64)))) (i64.wrap ((i64.wrap ((i64.wrap ((u64.wrap (i64.wrap (a+b))).fdiv (2^(min 1 64))))+m))-y_65)) b cmp_c0_f_0 cmp_c0_f_1).bind fun y_75=>
        ck (y_75.length==data.length) <|
        some y_75
       else
        ck (y_67.length==data.length) <|
        some y_67
     else
      if ((decide (a<y_65))&&(decide (y_65<(i64.wrap ((u64.wrap (i64.wrap (a+b))).fdiv (2^(min 1 64))))))) then
       (AM n_ data a y_65 (i64.wrap ((u64.wrap (i64.wrap (a+b))).fdiv (2^(min 1 64)))) cmp_c0_f_0 cmp_c0_f_1).bind fun y_79=>
       if ((decide ((i64.wrap ((u64.wrap (i64.wrap (a+b))).fdiv (2^(min 1 64))))<(i64.wrap ((i64.wrap ((i64.wrap ((u64.wrap (i64.wrap (a+b))).fdiv (2^(min 1 64))))+m))-y_65))))&&(decide ((i64.wrap ((i64.wrap ((i64.wrap ((u64.wrap (i64.wrap (a+b))).fdiv (2^(min 1 64))))+m))-y_65))<b))) then
        (AM n_ y_79 (i64.wrap ((u64.wrap (i64.wrap (a+b))).fdiv (2^(min 1 64)))) (i64.wrap ((i64.wrap ((i64.wrap ((u64.wrap (i64.wrap (a+b))).fdiv (2^(min 1 64))))+m))-y_65)) b cmp_c0_f_0 cmp_c0_f_1).bind fun y_81=>
        ck (y_81.length==data.length) <|
        some y_81
       else
        ck (y_79.length==data.length) <|
        some y_79
      else
       if ((decide ((i64.wrap ((u64.wrap (i64.wrap (a+b))).fdiv (2^(min 1 64))))<(i64.wrap ((i64.wrap ((i64.wrap ((u64.wrap (i64.wrap (a+b))).fdiv (2^(min 1 64))))+m))-y_65))))&&(decide ((i64.wrap ((i64.wrap ((i64.wrap ((u64.wrap (i64.wrap (a+b))).fdiv (2^(min 1 64))))+m))-y_65))<b))) then
        (AM n_ data (i64.wrap ((u64.wrap (i64.wrap (a+b))).fdiv (2^(min 1 64)))) (i64.wrap ((i64.wrap ((i64.wrap ((u64.wrap (i64.wrap (a+b))).fdiv (2^(min 1 64))))+m))-y_65)) b cmp_c0_f_0 cmp_c0_f_1).bind fun y_85=>
        ck (y_85.length==data.length) <|
        some y_85
       else
        some data
def CG (data:List Int) (a:Int) (m:Int) (b:Int) (cmp_c0_f_0:AX) (cmp_c0_f_1:List Aa):Option (List Int):=AM 64 data a m b cmp_c0_f_0 cmp_c0_f_1
def Ba (n:Int) (c:AX) (c2:List Aa) (blockSize:Int):((List Int)×Int×Int)->Option (((List Int)×Int×Int)⊕((List Int)×Int))
 | (data,a,b)=>
  if (decide (b<=n)) then
   (Al data a b c c2).bind fun y_2=>
   some (.inl (y_2,b,(i64.wrap (b+blockSize))))
  else
   some (.inr (data,a))
def CA (n:Int) (c:AX) (c2:List Aa) (blockSize:Int):((List Int)×Int×Int)->Option (((List Int)×Int×Int)⊕((List Int)×Int))
 | (data,a,b)=>
  if (decide (b<=n)) then
   (CG data a (i64.wrap (a+blockSize)) b c c2).bind fun y_7=>
   some (.inl (y_7,b,(i64.wrap (b+(i64.wrap (2*blockSize))))))
  else
   some (.inr (data,a))
def BZ (n:Int) (c:AX) (c2:List Aa):((List Int)×Int)->Option (((List Int)×Int)⊕(List Int))
 | (data,blockSize)=>
  if (decide (blockSize<n)) then
   (AS (CA n c c2 blockSize) (data,0,(i64.wrap (2*blockSize)))).bind fun y_8=>
   if (decide ((i64.wrap (y_8.2+blockSize))<n)) then
    (CG y_8.1 y_8.2 (i64.wrap (y_8.2+blockSize)) n c c2).bind fun y_10=>
    some (.inl (y_10,(i64.wrap (blockSize*2))))
   else
    some (.inl (y_8.1,(i64.wrap (blockSize*2))))
  else
   some (.inr data)
def Be (data:List Int) (n:Int) (cmp_c0_f_0:AX) (cmp_c0_f_1:List Aa):Option (List Int) :=
 (AS (Ba n cmp_c0_f_0 cmp_c0_f_1 20) (data,0,20)).bind fun y_3=>
 (Al y_3.1 y_3.2 n cmp_c0_f_0 cmp_c0_f_1).bind fun y_4=>
 (AS (BZ n cmp_c0_f_0 cmp_c0_f_1) (y_4,20)).bind fun y_11=>
 ck (y_11.length==data.length) <|
 some y_11
def BN (x:List Int) (cmp_c0_f_0:AX) (cmp_c0_f_1:List Aa):Option (List Int) :=
 (Be x (x.length:Int) cmp_c0_f_0 cmp_c0_f_1).bind fun y_1=>
 ck (y_1.length==x.length) <|
 some y_1
def CE (n:Int) (number_c0:AX) (number_c1:List Aa):Option (List Int) :=
 (Bi n).bind fun y_1=>
 (BN y_1 number_c0 number_c1).bind fun y_2=>
 some y_2
def Gb (e_:AX) (curve:List Aa):Option (List Int) :=
 (CE (curve.length:Int) e_ curve).bind fun y_1=>
 some y_1
def DR (curve:List Aa) (order:List Int) (t15:Int):(Int×Int)->Option ((Int×Int)⊕Int)
 | (length,t16)=>
  if (decide (t16<t15)) then
   ck (BC t16 order.length) <|
   ck (nz (order.length:Int)) <|
   ck (BC ((i64.wrap (t16+1)).tmod (order.length:Int)) order.length) <|
   ck (BC (order.getD t16.toNat default) curve.length) <|
   ck (BC (order.getD ((i64.wrap (t16+1)).tmod (order.length:Int)).toNat default) curve.length) <|
   (EV (i64.wrap (((curve.getD (order.getD t16.toNat default).toNat default).Mag)-((curve.getD (order.getD ((i64.wrap (t16+1)).tmod (order.length:Int)).toNat default).toNat default).Mag)))).bind fun y_8=>
   some (.inl ((i64.wrap (length+y_8)),(i64.wrap (t16+1))))
  else
   some (.inr length)
def Fl (curve:List Aa) (period:Int):Option Int :=
 (Gb (AX.mk 0 period) curve).bind fun y_1=>
 (AS (DR curve y_1 (y_1.length:Int)) (0,0)).bind fun y_9=>
 some y_9
def DI (curve:List Aa) (t9:List Int) (t10:Int):((List Int)×Int)->Option (((List Int)×Int)⊕(List Int))
 | (out,t11)=>
  if (decide (t11<t10)) then
   ck (BC t11 t9.length) <|
   (Fl curve (t9.getD t11.toNat default)).bind fun y_3=>
   ck (EY (out.length+([y_3]:List Int).length) 8) <|
   some (.inl ((out++([y_3]:List Int)),(i64.wrap (t11+1))))
  else
   some (.inr out)
def Ey (curve:List Aa) (periods:List Int):Option (List Int) :=
 (AS (DI curve periods (periods.length:Int)) (([]:List Int),0)).bind fun y_5=>
 some y_5
def CC (s_:List Int) (v:Int) (t7:Int):Int->Option (Int⊕(Unit⊕Int))
 | t8=>
  if (decide (t8<t7)) then
   ck (BC t8 s_.length) <|
   if (v==(s_.getD t8.toNat default)) then
    some (.inr (.inr t8))
   else
    some (.inl (i64.wrap (t8+1)))
  else
   some (.inr (.inl ()))
def DL (s_:List Int) (v:Int):Option Int :=
 (AS (CC s_ v (s_.length:Int)) 0).bind fun y_4=>
 match y_4 with
 | .inl y_4a=>
  some (-1)
 | .inr y_4b=>
  some y_4b
def KE (curve:List Aa) (periods:List Int):Option Int :=
 (Ey curve periods).bind fun y_1=>
 (cz y_1).bind fun y_2=>
 (DL y_1 y_2).bind fun y_3=>
 ck (BC y_3 periods.length) <|
 some (periods.getD y_3.toNat default)
def HM (curve:List Aa) (x:If):Option (Int×Int) :=
 (Im curve x 3).bind fun y_1=>
 if (!(y_1==0)) then
  some (0,y_1)
 else
  (EW x).bind fun y_3=>
  (KE curve y_3).bind fun y_4=>
  some (y_4,0)
def GY (t7:List Aa) (t8:Int):((List Int)×Int)->Option (((List Int)×Int)⊕(List Int))
 | (out,t9)=>
  if (decide (t9<t8)) then
   ck (BC t9 t7.length) <|
   ck (EY (out.length+([(t7.getD t9.toNat default).Mag]:List Int).length) 8) <|
   some (.inl ((out++([(t7.getD t9.toNat default).Mag]:List Int)),(i64.wrap (t9+1))))
  else
   some (.inr out)
def KN (curve:List Aa):Option (List Int) :=
 (AS (GY curve (curve.length:Int)) (([]:List Int),0)).bind fun y_4=>
 some y_4
def Gg (curve:List Aa):Option (Int×Int) :=
 (Dj curve).bind fun y_1=>
 if (!y_1) then
  some (0,1)
 else
  if ((curve.length:Int)==0) then
   some (0,3)
  else
   (KN curve).bind fun y_4=>
   (pc y_4).bind fun y_5=>
   (cz y_4).bind fun y_6=>
   some ((i64.wrap (y_5-y_6)),0)
def GO (e_:AX):Option Bool :=
 (EG e_.Epoch).bind fun y_1=>
 ck (!y_1||(DG e_.Period 1 1000000).isSome) <|
 some (y_1&&((DG e_.Period 1 1000000).getD default))
def IC (e_:AX) (curve:List Aa):Option ((List Int)×Int) :=
 (GO e_).bind fun y_1=>
 ck (!(!(!y_1))||(Dj curve).isSome) <|
 if ((!y_1)||(!((Dj curve).getD default))) then
  some (([]:List Int),1)
 else
  (Gb e_ curve).bind fun y_4=>
  some (y_4,0)
def GZ (t7:List Int) (t8:Int):((List (List UInt8))×Int)->Option (((List (List UInt8))×Int)⊕(List (List UInt8)))
 | (words,t9)=>
  if (decide (t9<t8)) then
   ck (BC t9 t7.length) <|
   (BP (t7.getD t9.toNat default)).bind fun y_3=>
   ck (EY (words.length+([y_3]:List (List UInt8)).length) 16) <|
   some (.inl ((words++([y_3]:List (List UInt8))),(i64.wrap (t9+1))))
  else
   some (.inr words)
def KP (list:List Int):Option (List UInt8) :=
 (AS (GZ list (list.length:Int)) (([]:List (List UInt8)),0)).bind fun y_5=>
 (VX y_5 ([32]:List UInt8)).bind fun y_6=>
 some y_6
def Hr (list:List (List UInt8)):Option Int :=
 some (list.length:Int)
def JE (lines:List (List UInt8)):Option (List (List UInt8)) :=
 (Hr lines).bind fun y_1=>
 (BP y_1).bind fun y_2=>
 ck (DW ([111,107,32]:List UInt8).length y_2.length) <|
 ck (EY (lines.length+([(([111,107,32]:List UInt8)++y_2)]:List (List UInt8)).length) 16) <|
 some (lines++([(([111,107,32]:List UInt8)++y_2)]:List (List UInt8)))
def DS (t100:List Aa) (t101:Int):((List (List UInt8))×Int)->Option (((List (List UInt8))×Int)⊕(List (List UInt8)))
 | (lines,t102)=>
  if (decide (t102<t101)) then
   ck (BC t102 t100.length) <|
   (BP ((t100.getD t102.toNat default).Time)).bind fun y_25=>
   ck (DW y_25.length ([32]:List UInt8).length) <|
   (Dz ((t100.getD t102.toNat default).Mag)).bind fun y_27=>
   ck (DW (y_25++([32]:List UInt8)).length y_27.length) <|
   ck (EY (lines.length+([((y_25++([32]:List UInt8))++y_27)]:List (List UInt8)).length) 16) <|
   some (.inl ((lines++([((y_25++([32]:List UInt8))++y_27)]:List (List UInt8))),(i64.wrap (t102+1))))
  else
   some (.inr lines)
def Ci (d:Bc) (c:HA):Option ((List (List UInt8))×Int) :=
 ck (BC 1 c.words_.length) <|
 (Je d.Estimates (c.words_.getD 1 default)).bind fun y_2=>
 if (!(y_2.2==0)) then
  some (([]:List (List UInt8)),y_2.2)
 else
  ck (BC 0 c.words_.length) <|
  if ((c.words_.getD 0 default)==([97,109,112]:List UInt8)) then
   (Gg y_2.1).bind fun y_6=>
   (BP y_6.1).bind fun y_7=>
   (FW y_7 y_6.2).bind fun y_8=>
   some (y_8.1,y_8.2)
  else
   if ((c.words_.getD 0 default)==([98,101,115,116]:List UInt8)) then
    ck (BC 2 c.numbers_.length) <|
    ck (BC 3 c.numbers_.length) <|
    ck (BC 4 c.numbers_.length) <|
    (HM y_2.1 (If.mk (c.numbers_.getD 2 default) (c.numbers_.getD 3 default) (c.numbers_.getD 4 default))).bind fun y_13=>
    (BP y_13.1).bind fun y_14=>
    (FW y_14 y_13.2).bind fun y_15=>
    some (y_15.1,y_15.2)
   else
    if ((c.words_.getD 0 default)==([102,111,108,100]:List UInt8)) then
     ck (BC 2 c.numbers_.length) <|
     (IC (AX.mk 0 (c.numbers_.getD 2 default)) y_2.1).bind fun y_18=>
     if ((y_18.1.length:Int)==0) then
      (FW ([45]:List UInt8) y_18.2).bind fun y_20=>
      some (y_20.1,y_20.2)
     else
      (KP y_18.1).bind fun y_21=>
      (FW y_21 y_18.2).bind fun y_22=>
      some (y_22.1,y_22.2)
    else
     (AS (DS y_2.1 (y_2.1.length:Int)) (([]:List (List UInt8)),0)).bind fun y_30=>
     (JE y_30).bind fun y_31=>
     some (y_31,0)
def Ez (e_:AD):Option (List UInt8) :=
 (Dz e_.Mag).bind fun y_1=>
 if e_.Fainter then
  ck (DW ([60]:List UInt8).length y_1.length) <|
  (BP e_.Time).bind fun y_4=>
  (VX ([y_4,e_.Star,e_.Observer,(([60]:List UInt8)++y_1)]:List (List UInt8)) ([32]:List UInt8)).bind fun y_5=>
  some y_5
 else
  (BP e_.Time).bind fun y_6=>
  (VX ([y_6,e_.Star,e_.Observer,y_1]:List (List UInt8)) ([32]:List UInt8)).bind fun y_7=>
  some y_7
def Gx (list:List (List Int)):Option Int :=
 some (list.length:Int)
def DT (d:Bc) (code:Int) (t92:List Ac) (t93:Int):((List (List UInt8))×Int)->Option (((List (List UInt8))×Int)⊕(List (List UInt8)))
 | (lines,t94)=>
  if (decide (t94<t93)) then
   ck (BC t94 t92.length) <|
   (Ds (t92.getD t94.toNat default)).bind fun y_31=>
   ck (EY (lines.length+([y_31]:List (List UInt8)).length) 16) <|
   some (.inl ((lines++([y_31]:List (List UInt8))),(i64.wrap (t94+1))))
  else
   some (.inr lines)
def Fq (d:Bc) (c:HA):Option ((List (List UInt8))×Int×Bc) :=
 ck (BC 0 c.words_.length) <|
 if ((c.words_.getD 0 default)==([115,116,97,114]:List UInt8)) then
  (DU d c).bind fun y_3=>
  some (y_3.1,y_3.2.1,y_3.2.2)
 else
  if ((c.words_.getD 0 default)==([101,115,116]:List UInt8)) then
   (DU d c).bind fun y_5=>
   some (y_5.1,y_5.2.1,y_5.2.2)
  else
   if ((c.words_.getD 0 default)==([101,110,116,101,114]:List UInt8)) then
    (DU d c).bind fun y_7=>
    some (y_7.1,y_7.2.1,y_7.2.2)
   else
    if ((c.words_.getD 0 default)==([99,117,114,118,101]:List UInt8)) then
     (Ci d c).bind fun y_9=>
     some (y_9.1,y_9.2,d)
    else
     if ((c.words_.getD 0 default)==([97,109,112]:List UInt8)) then
      (Ci d c).bind fun y_11=>
      some (y_11.1,y_11.2,d)
     else
      if ((c.words_.getD 0 default)==([98,101,115,116]:List UInt8)) then
       (Ci d c).bind fun y_13=>
       some (y_13.1,y_13.2,d)
      else
       if ((c.words_.getD 0 default)==([102,111,108,100]:List UInt8)) then
        (Ci d c).bind fun y_15=>
        some (y_15.1,y_15.2,d)
       else
        if ((c.words_.getD 0 default)==([108,97,115,116]:List UInt8)) then
         ck (BC 1 c.words_.length) <|
         (Fo d.Estimates (c.words_.getD 1 default)).bind fun y_18=>
         (Ez y_18.1).bind fun y_19=>
         (FW y_19 y_18.2).bind fun y_20=>
         some (y_20.1,y_20.2,d)
        else
         if ((c.words_.getD 0 default)==([112,97,105,114,115]:List UInt8)) then
          ck (BC 1 c.numbers_.length) <|
          ck (BC 2 c.numbers_.length) <|
          (EX d.Estimates (c.numbers_.getD 1 default) (c.numbers_.getD 2 default)).bind fun y_24=>
          (Gx y_24.1).bind fun y_25=>
          (BP y_25).bind fun y_26=>
          (FW y_26 y_24.2).bind fun y_27=>
          some (y_27.1,y_27.2,d)
         else
          (FA d.Log).bind fun y_28=>
          (AS (DT d y_28.2 y_28.1 (y_28.1.length:Int)) (([]:List (List UInt8)),0)).bind fun y_33=>
          (JE y_33).bind fun y_34=>
          some (y_34,y_28.2,d)
def He (d:Bc) (line:List UInt8):Option (Bc×(List (List UInt8))×Bool) :=
 (DJ d.Stars).bind fun y_1=>
 (CS d.Estimates).bind fun y_2=>
 (Cv line).bind fun y_3=>
 if (!y_3.2) then
  some ((Bc.mk ([]:List Star) ([]:List AD) []),([]:List (List UInt8)),false)
 else
  if (!y_3.1.wrong_) then
   (Fq (Bc.mk y_1 y_2 d.Log) y_3.1).bind fun y_6=>
   if (!(y_6.2.1==0)) then
    (GG y_6.2.1).bind fun y_8=>
    ck (DW ([101,114,114,111,114,32]:List UInt8).length y_8.length) <|
    some ((Bc.mk y_1 y_2 d.Log),([(([101,114,114,111,114,32]:List UInt8)++y_8)]:List (List UInt8)),true)
   else
    some (y_6.2.2,y_6.1,true)
  else
   if (!(7==0)) then
    (GG 7).bind fun y_11=>
    ck (DW ([101,114,114,111,114,32]:List UInt8).length y_11.length) <|
    some ((Bc.mk y_1 y_2 d.Log),([(([101,114,114,111,114,32]:List UInt8)++y_11)]:List (List UInt8)),true)
   else
    some ((Bc.mk y_1 y_2 d.Log),([]:List (List UInt8)),true)
def Gf (d:Bc) (line:List UInt8):Option (Bc×(List (List UInt8))×Int) :=
 (Gc d).bind fun y_1=>
 if (!y_1) then
  some ((Bc.mk ([]:List Star) ([]:List AD) []),([]:List (List UInt8)),1)
 else
  (He d line).bind fun y_3=>
  if (!y_3.2.2) then
   some ((Bc.mk ([]:List Star) ([]:List AD) []),([]:List (List UInt8)),7)
  else
   some (y_3.1,y_3.2.1,0)
def Lr (code:List UInt8) (more:List UInt8):Option Bool :=
 some ((decide (3000<(code.length:Int)))||(decide (3000<(more.length:Int))))
def Kk (code:List UInt8):Option Cq :=
 some (Cq.mk code 0 0)
def El (s_:Cq):Option (Int×Cq) :=
 if (decide (s_.at_<(s_.code_.length:Int))) then
  ck (BC s_.at_ s_.code_.length) <|
  if (decide ((i64.wrap (s_.at_+1))<=(s_.code_.length:Int))) then
   some (((s_.code_.getD s_.at_.toNat default).toNat:Int),(Cq.mk s_.code_ (i64.wrap (s_.at_+1)) (u64.wrap ((u64.wrap ((u64.wrap (s_.seed_*6364136223846793005))+(u64.wrap ((s_.code_.getD s_.at_.toNat default).toNat:Int))))+1442695040888963407))))
  else
   ck (UT 40) <|
   some ((i64.wrap (u64.wrap (BitVec.ofInt (IntKind.bits .u64) ((u64.wrap ((u64.wrap ((u64.wrap (s_.seed_*6364136223846793005))+(u64.wrap ((s_.code_.getD s_.at_.toNat default).toNat:Int))))+1442695040888963407)).fdiv (2^(min 40 64))) &&& BitVec.ofInt (IntKind.bits .u64) 255).toNat)),(Cq.mk s_.code_ (i64.wrap (s_.at_+1)) (u64.wrap ((u64.wrap ((u64.wrap (s_.seed_*6364136223846793005))+(u64.wrap ((s_.code_.getD s_.at_.toNat default).toNat:Int))))+1442695040888963407))))
 else
  if (decide ((i64.wrap (s_.at_+1))<=(s_.code_.length:Int))) then
   some (0,(Cq.mk s_.code_ (i64.wrap (s_.at_+1)) (u64.wrap ((u64.wrap ((u64.wrap (s_.seed_*6364136223846793005))+(u64.wrap 0)))+1442695040888963407))))
  else
   ck (UT 40) <|
   some ((i64.wrap (u64.wrap (BitVec.ofInt (IntKind.bits .u64) ((u64.wrap ((u64.wrap ((u64.wrap (s_.seed_*6364136223846793005))+(u64.wrap 0)))+1442695040888963407)).fdiv (2^(min 40 64))) &&& BitVec.ofInt (IntKind.bits .u64) 255).toNat)),(Cq.mk s_.code_ (i64.wrap (s_.at_+1)) (u64.wrap ((u64.wrap ((u64.wrap (s_.seed_*6364136223846793005))+(u64.wrap 0)))+1442695040888963407))))
def Dq (s_:Cq) (n:Int):Option (Int×Cq) :=
 if (decide (n<=1)) then
  some (0,s_)
 else
  (El s_).bind fun y_2=>
  if (decide (200<n)) then
   (El y_2.2).bind fun y_4=>
   ck (nz n) <|
   some (((i64.wrap ((i64.wrap (y_2.1*256))+y_4.1)).tmod n),y_4.2)
  else
   ck (nz n) <|
   some ((y_2.1.tmod n),y_2.2)
def Bh (s_:Cq) (list:List (List UInt8)):Option ((List UInt8)×Cq) :=
 (Dq s_ (list.length:Int)).bind fun y_1=>
 ck (BC y_1.1 list.length) <|
 some ((list.getD y_1.1.toNat default),y_1.2)
def JM (s_:Cq):Option ((List UInt8)×Cq) :=
 (Dq s_ 8).bind fun y_1=>
 if (y_1.1==0) then
  (Bh y_1.2 ([([115,116,97,114,32,109,105,114,97,32,56,51,54,48,32,45,49,48,55,50,51,32,50,46,48,48,48,32,49,48,46,49,48,48]:List UInt8),([115,116,97,114,32,114,114,45,108,121,114,32,54,57,57,48,48,32,49,53,52,50,48,48,32,55,46,49,48,48,32,56,46,49,48,48]:List UInt8),([115,116,97,114,32,115,115,45,99,121,103,32,55,56,49,48,48,32,49,53,54,57,48,48,32,55,46,55,48,48,32,49,50,46,52,48,48]:List UInt8),([115,116,97,114,32,109,105,114,97,32,49,32,49,32,49,46,48,48,48,32,50,46,48,48,48]:List UInt8),([115,116,97,114,32,120,32,56,54,52,48,48,32,48,32,49,46,48,48,48,32,50,46,48,48,48]:List UInt8),([115,116,97,114,32,89,32,49,32,49,32,49,46,48,48,48,32,50,46,48,48,48]:List UInt8),([115,116,97,114,32,122,32,49,32,120,32,49,46,48,48,48,32,50,46,48,48,48]:List UInt8)]:List (List UInt8))).bind fun y_3=>
  some (y_3.1,y_3.2)
 else
  if (y_1.1==1) then
   (Bh y_1.2 ([([101,115,116,32,49,48,48,32,109,105,114,97,32,97,98,32,51,46,52,48,48]:List UInt8),([101,115,116,32,50,48,48,32,109,105,114,97,32,97,98,32,51,46,54,48,48]:List UInt8),([101,115,116,32,51,53,48,32,109,105,114,97,32,99,100,32,52,46,53,48,48]:List UInt8),([101,115,116,32,51,53,48,32,109,105,114,97,32,97,98,32,53,46,53,48,48]:List UInt8),([101,115,116,32,52,48,48,32,109,105,114,97,32,97,98,32,60,54,46,48,48,48]:List UInt8),([101,115,116,32,53,48,48,32,114,114,45,108,121,114,32,97,98,32,55,46,52,48,48]:List UInt8),([101,115,116,32,55,48,48,32,114,114,45,108,121,114,32,99,100,32,55,46,57,48,48]:List UInt8),([101,115,116,32,57,49,48,32,109,105,114,97,32,101,32,51,46,52,53,48]:List UInt8),([101,115,116,32,49,48,48,32,110,111,110,101,32,97,98,32,51,46,52,48,48]:List UInt8),([101,115,116,32,49,48,48,32,109,105,114,97,32,65,66,32,51,46,52,48,48]:List UInt8),([101,115,116,32,49,48,48,32,109,105,114,97,32,97,98,32,51,46,52]:List UInt8),([101,115,116,32,120,32,109,105,114,97,32,97,98,32,51,46,52,48,48]:List UInt8)]:List (List UInt8))).bind fun y_5=>
   some (y_5.1,y_5.2)
  else
   if (y_1.1==2) then
    (Bh y_1.2 ([([101,115,116,32,49,48,48,32,109,105,114,97,32,97,98,32,51,46,52,48,48]:List UInt8),([101,115,116,32,50,48,48,32,109,105,114,97,32,97,98,32,51,46,54,48,48]:List UInt8),([101,115,116,32,51,53,48,32,109,105,114,97,32,99,100,32,52,46,53,48,48]:List UInt8),([101,115,116,32,51,53,48,32,109,105,114,97,32,97,98,32,53,46,53,48,48]:List UInt8),([101,115,116,32,52,48,48,32,109,105,114,97,32,97,98,32,60,54,46,48,48,48]:List UInt8),([101,115,116,32,53,48,48,32,114,114,45,108,121,114,32,97,98,32,55,46,52,48,48]:List UInt8),([101,115,116,32,55,48,48,32,114,114,45,108,121,114,32,99,100,32,55,46,57,48,48]:List UInt8),([101,115,116,32,57,49,48,32,109,105,114,97,32,101,32,51,46,52,53,48]:List UInt8),([101,115,116,32,49,48,48,32,110,111,110,101,32,97,98,32,51,46,52,48,48]:List UInt8),([101,115,116,32,49,48,48,32,109,105,114,97,32,65,66,32,51,46,52,48,48]:List UInt8),([101,115,116,32,49,48,48,32,109,105,114,97,32,97,98,32,51,46,52]:List UInt8),([101,115,116,32,120,32,109,105,114,97,32,97,98,32,51,46,52,48,48]:List UInt8)]:List (List UInt8))).bind fun y_7=>
    some (y_7.1,y_7.2)
   else
    if (y_1.1==3) then
     (Bh y_1.2 ([([101,115,116,32,49,48,48,32,109,105,114,97,32,97,98,32,51,46,52,48,48]:List UInt8),([101,115,116,32,50,48,48,32,109,105,114,97,32,97,98,32,51,46,54,48,48]:List UInt8),([101,115,116,32,51,53,48,32,109,105,114,97,32,99,100,32,52,46,53,48,48]:List UInt8),([101,115,116,32,51,53,48,32,109,105,114,97,32,97,98,32,53,46,53,48,48]:List UInt8),([101,115,116,32,52,48,48,32,109,105,114,97,32,97,98,32,60,54,46,48,48,48]:List UInt8),([101,115,116,32,53,48,48,32,114,114,45,108,121,114,32,97,98,32,55,46,52,48,48]:List UInt8),([101,115,116,32,55,48,48,32,114,114,45,108,121,114,32,99,100,32,55,46,57,48,48]:List UInt8),([101,115,116,32,57,49,48,32,109,105,114,97,32,101,32,51,46,52,53,48]:List UInt8),([101,115,116,32,49,48,48,32,110,111,110,101,32,97,98,32,51,46,52,48,48]:List UInt8),([101,115,116,32,49,48,48,32,109,105,114,97,32,65,66,32,51,46,52,48,48]:List UInt8),([101,115,116,32,49,48,48,32,109,105,114,97,32,97,98,32,51,46,52]:List UInt8),([101,115,116,32,120,32,109,105,114,97,32,97,98,32,51,46,52,48,48]:List UInt8)]:List (List UInt8))).bind fun y_9=>
     some (y_9.1,y_9.2)
    else
     if (y_1.1==4) then
      (Bh y_1.2 ([([99,117,114,118,101,32,109,105,114,97]:List UInt8),([99,117,114,118,101,32,114,114,45,108,121,114]:List UInt8),([99,117,114,118,101,32,77]:List UInt8),([97,109,112,32,109,105,114,97]:List UInt8),([97,109,112,32,114,114,45,108,121,114]:List UInt8),([97,109,112,32,110,111,110,101]:List UInt8)]:List (List UInt8))).bind fun y_11=>
      some (y_11.1,y_11.2)
     else
      if (y_1.1==5) then
       (Bh y_1.2 ([([98,101,115,116,32,109,105,114,97,32,49,48,48,32,53,48,48,32,53,48]:List UInt8),([98,101,115,116,32,109,105,114,97,32,50,48,48,32,51,48,48,32,49,48]:List UInt8),([98,101,115,116,32,114,114,45,108,121,114,32,49,48,48,32,50,48,48,32,53,48]:List UInt8),([98,101,115,116,32,109,105,114,97,32,48,32,49,32,49]:List UInt8),([102,111,108,100,32,109,105,114,97,32,50,53,48]:List UInt8),([102,111,108,100,32,109,105,114,97,32,48]:List UInt8),([102,111,108,100,32,110,111,110,101,32,49,48,48]:List UInt8),([98,101,115,116,32,109,105,114,97,32,120,32,49,32,49]:List UInt8)]:List (List UInt8))).bind fun y_13=>
       some (y_13.1,y_13.2)
      else
       if (y_1.1==6) then
        (Bh y_1.2 ([([108,97,115,116,32,109,105,114,97]:List UInt8),([108,97,115,116,32,114,114,45,108,121,114]:List UInt8),([108,97,115,116,32,110,111,110,101]:List UInt8),([108,97,115,116,32,77]:List UInt8),([112,97,105,114,115,32,49,48,48,32,53,48,48]:List UInt8),([112,97,105,114,115,32,48,32,49,48,48]:List UInt8),([112,97,105,114,115,32,45,49,32,53]:List UInt8),([112,97,105,114,115,32,53,32,120]:List UInt8)]:List (List UInt8))).bind fun y_15=>
        some (y_15.1,y_15.2)
       else
        (Bh y_1.2 ([([101,110,116,101,114,32,51,32,104,111,117,114,115,32,53]:List UInt8),([101,110,116,101,114,32,52,32,104,111,117,114,115,32,45,50]:List UInt8),([101,110,116,101,114,32,50,32,115,101,101,110,32,49]:List UInt8),([101,110,116,101,114,32,57,32,83,101,101,110,32,49]:List UInt8),([108,111,103]:List UInt8),([108,111,103,32,49]:List UInt8),([]:List UInt8),([102,111,111]:List UInt8),([99,117,114,118,101]:List UInt8)]:List (List UInt8))).bind fun y_16=>
        some (y_16.1,y_16.2)
def HF :(Cq×(List (List UInt8))×Int)->Option ((Cq×(List (List UInt8))×Int)⊕(List (List UInt8)))
 | (s_,out,k)=>
  if (decide (0<k)) then
   (JM s_).bind fun y_4=>
   ck (EY (out.length+([y_4.1]:List (List UInt8)).length) 16) <|
   some (.inl (y_4.2,(out++([y_4.1]:List (List UInt8))),(i64.wrap (k-1))))
  else
   some (.inr out)
def JQ (code:List UInt8):Option (List (List UInt8)) :=
 (Kk code).bind fun y_1=>
 (Dq y_1 10).bind fun y_2=>
 (AS (HF) (y_2.2,([([115,116,97,114,32,109,105,114,97,32,56,51,54,48,32,45,49,48,55,50,51,32,50,46,48,48,48,32,49,48,46,49,48,48]:List UInt8)]:List (List UInt8)),(i64.wrap (1+y_2.1)))).bind fun y_6=>
 some y_6
def IU :Option Bc :=
 some (Bc.mk ([]:List Star) ([]:List AD) [])
def FU (list:List Star) (name:List UInt8):Int->Option (Int⊕(Unit⊕Int))
 | i=>
  if (decide (i<(list.length:Int))) then
   ck (BC i list.length) <|
   if (((list.getD i.toNat default).Name)==name) then
    some (.inr (.inr i))
   else
    some (.inl (i64.wrap (i+1)))
  else
   some (.inr (.inl ()))
def JP (list:List Star) (name:List UInt8):Option Int :=
 (AS (FU list name) 0).bind fun y_4=>
 match y_4 with
 | .inl y_4a=>
  some (-1)
 | .inr y_4b=>
  some y_4b
def Dp (s_:List UInt8) (by_:UInt8):((List (List UInt8))×Int×Int)->Option (((List (List UInt8))×Int×Int)⊕((List (List UInt8))×Int))
 | (out,from_,i)=>
  if (decide (i<(s_.length:Int))) then
   ck (BC i s_.length) <|
   if (((s_.getD i.toNat 0).toNat:Int)==(by_.toNat:Int)) then
    ck (JG from_ i s_.length) <|
    ck (EY (out.length+([(cut s_ from_ i)]:List (List UInt8)).length) 16) <|
    some (.inl ((out++([(cut s_ from_ i)]:List (List UInt8))),(i64.wrap (i+1)),(i64.wrap (i+1))))
   else
    some (.inl (out,from_,(i64.wrap (i+1))))
  else
   some (.inr (out,from_))
def Ig (s_:List UInt8) (by_:UInt8):Option (List (List UInt8)) :=
 (AS (Dp s_ by_) (([]:List (List UInt8)),0,0)).bind fun y_6=>
 ck (JG y_6.2 (s_.length:Int) s_.length) <|
 ck (EY (y_6.1.length+([(cut s_ y_6.2 (s_.length:Int))]:List (List UInt8)).length) 16) <|
 some (y_6.1++([(cut s_ y_6.2 (s_.length:Int))]:List (List UInt8)))
def DK (n:Int):((List UInt8)×Int)->Option (((List UInt8)×Int)⊕(List UInt8))
 | (out,k)=>
  if (!(k==0)) then
   ck (nz 10) <|
   if (decide ((k.tmod 10)<0)) then
    ck (EY (([(qA (IntKind.u8.wrap (i64.wrap (48+(i64.wrap (0-(k.tmod 10)))))))]:List UInt8).length+out.length) 1) <|
    some (.inl ((([(qA (IntKind.u8.wrap (i64.wrap (48+(i64.wrap (0-(k.tmod 10)))))))]:List UInt8)++out),(i64.wrap (k.tdiv 10))))
   else
    ck (EY (([(qA (IntKind.u8.wrap (i64.wrap (48+(k.tmod 10)))))]:List UInt8).length+out.length) 1) <|
    some (.inl ((([(qA (IntKind.u8.wrap (i64.wrap (48+(k.tmod 10)))))]:List UInt8)++out),(i64.wrap (k.tdiv 10))))
  else
   some (.inr out)
def Di (n:Int):Option (List UInt8) :=
 (AS (DK n) (([]:List UInt8),n)).bind fun y_6=>
 if ((y_6.length:Int)==0) then
  some ([48]:List UInt8)
 else
  if (decide (n<0)) then
   ck (DW ([45]:List UInt8).length y_6.length) <|
   some (([45]:List UInt8)++y_6)
  else
   some y_6
def Ha (e_:Ac):Option (List UInt8) :=
 (Di e_.Day).bind fun y_1=>
 ck (DW y_1.length ([32]:List UInt8).length) <|
 ck (DW (y_1++([32]:List UInt8)).length e_.What.length) <|
 ck (DW ((y_1++([32]:List UInt8))++e_.What).length ([32]:List UInt8).length) <|
 (Di e_.Value).bind fun y_5=>
 ck (DW (((y_1++([32]:List UInt8))++e_.What)++([32]:List UInt8)).length y_5.length) <|
 some ((((y_1++([32]:List UInt8))++e_.What)++([32]:List UInt8))++y_5)
def DP (words:List UInt8):(Int×Int)->Option ((Int×Int)⊕Int)
 | (sum,i)=>
  if (decide (i<(words.length:Int))) then
   ck (BC i words.length) <|
   ck (nz 65521) <|
   some (.inl (((i64.wrap ((i64.wrap (31*sum))+((words.getD i.toNat 0).toNat:Int))).tmod 65521),(i64.wrap (i+1))))
  else
   some (.inr sum)
def Hb (before:Int) (words:List UInt8):Option Int :=
 ck (nz 65521) <|
 (AS (DP words) (((i64.wrap (before+23)).tmod 65521),0)).bind fun y_5=>
 some y_5
def JN (stamp:Int) (e_:Ac):Option (List UInt8) :=
 (Ha e_).bind fun y_1=>
 ck (DW y_1.length ([32]:List UInt8).length) <|
 (Di stamp).bind fun y_3=>
 ck (DW (y_1++([32]:List UInt8)).length y_3.length) <|
 ck (DW ((y_1++([32]:List UInt8))++y_3).length ([10]:List UInt8).length) <|
 some (((y_1++([32]:List UInt8))++y_3)++([10]:List UInt8))
def Dw (c:UInt8):Option Bool :=
 some ((decide (48<=(c.toNat:Int)))&&(decide ((c.toNat:Int)<=57)))
def DD (s_:List UInt8) (t:List UInt8):(Int×Int)->Option ((Int×Int)⊕(Int⊕(Int×Bool)))
 | (n,i)=>
  if (decide (i<(t.length:Int))) then
   ck (BC i t.length) <|
   (Dw (t.getD i.toNat 0)).bind fun y_7=>
   if (!y_7) then
    some (.inr (.inr (0,false)))
   else
    some (.inl ((i64.wrap ((i64.wrap (10*n))+(i64.wrap (IntKind.u8.wrap (((t.getD i.toNat 0).toNat:Int)-48))))),(i64.wrap (i+1))))
  else
   some (.inr (.inl n))
def Hq (s_:List UInt8) (t:List UInt8):(Int×Int)->Option ((Int×Int)⊕(Int⊕(Int×Bool)))
 | (n,i)=>
  if (decide (i<(t.length:Int))) then
   ck (BC i t.length) <|
   (Dw (t.getD i.toNat 0)).bind fun y_18=>
   if (!y_18) then
    some (.inr (.inr (0,false)))
   else
    some (.inl ((i64.wrap ((i64.wrap (10*n))+(i64.wrap (IntKind.u8.wrap (((t.getD i.toNat 0).toNat:Int)-48))))),(i64.wrap (i+1))))
  else
   some (.inr (.inl n))
def GV (s_:List UInt8):Option (Int×Bool) :=
 ck (!(!(s_==([]:List UInt8)))||BC 0 s_.length) <|
 if ((!(s_==([]:List UInt8)))&&(((s_.getD 0 0).toNat:Int)==45)) then
  ck (JG 1 (s_.length:Int) s_.length) <|
  if ((decide (((cut s_ 1 (s_.length:Int)).length:Int)<1))||(decide (18<((cut s_ 1 (s_.length:Int)).length:Int)))) then
   some (0,false)
  else
   (AS (DD s_ (cut s_ 1 (s_.length:Int))) (0,0)).bind fun y_9=>
   match y_9 with
   | .inl y_9a=>
    if (decide (((cut s_ 1 (s_.length:Int)).length:Int)<(s_.length:Int))) then
     (Di (i64.wrap (0-y_9a))).bind fun y_11=>
     if (!(y_11==s_)) then
      some (0,false)
     else
      some ((i64.wrap (0-y_9a)),true)
    else
     (Di y_9a).bind fun y_13=>
     if (!(y_13==s_)) then
      some (0,false)
     else
      some (y_9a,true)
   | .inr y_9b=>
    some (y_9b.1,y_9b.2)
 else
  if ((decide ((s_.length:Int)<1))||(decide (18<(s_.length:Int)))) then
   some (0,false)
  else
   (AS (Hq s_ s_) (0,0)).bind fun y_20=>
   match y_20 with
   | .inl y_20a=>
    if (decide ((s_.length:Int)<(s_.length:Int))) then
     (Di (i64.wrap (0-y_20a))).bind fun y_22=>
     if (!(y_22==s_)) then
      some (0,false)
     else
      some ((i64.wrap (0-y_20a)),true)
    else
     (Di y_20a).bind fun y_24=>
     if (!(y_24==s_)) then
      some (0,false)
     else
      some (y_20a,true)
   | .inr y_20b=>
    some (y_20b.1,y_20b.2)
def GD (n:Int) (low:Int) (high:Int):Option Bool :=
 some ((decide (low<=n))&&(decide (n<=high)))
def Lk (n:Int):Option Bool :=
 (GD n 0 100000).bind fun y_1=>
 some y_1
def GC (c:UInt8):Option Bool :=
 some ((decide (97<=(c.toNat:Int)))&&(decide ((c.toNat:Int)<=122)))
def GW (s_:List UInt8):Int->Option (Int⊕(Unit⊕Bool))
 | i=>
  if (decide (i<(s_.length:Int))) then
   ck (BC i s_.length) <|
   (GC (s_.getD i.toNat 0)).bind fun y_6=>
   ck (!(!y_6)||(Dw (s_.getD i.toNat 0)).isSome) <|
   if (((!y_6)&&(!((Dw (s_.getD i.toNat 0)).getD default)))&&(!(((s_.getD i.toNat 0).toNat:Int)==45))) then
    some (.inr (.inr false))
   else
    some (.inl (i64.wrap (i+1)))
  else
   some (.inr (.inl ()))
def Co (s_:List UInt8):Option Bool :=
 ck (!(!((s_==([]:List UInt8))||(decide (12<(s_.length:Int)))))||BC 0 s_.length) <|
 ck (!(!((s_==([]:List UInt8))||(decide (12<(s_.length:Int)))))||(GC (s_.getD 0 0)).isSome) <|
 if (((s_==([]:List UInt8))||(decide (12<(s_.length:Int))))||(!((GC (s_.getD 0 0)).getD default))) then
  some false
 else
  (AS (GW s_) 0).bind fun y_9=>
  match y_9 with
  | .inl y_9a=>
   some true
  | .inr y_9b=>
   some y_9b
def Ir (e_:Ac):Option Bool :=
 (Lk e_.Day).bind fun y_1=>
 ck (!y_1||(Co e_.What).isSome) <|
 ck (!(y_1&&((Co e_.What).getD default))||(GD e_.Value (-1000000) 1000000).isSome) <|
 some ((y_1&&((Co e_.What).getD default))&&((GD e_.Value (-1000000) 1000000).getD default))
def Hc (r:Hu):Option Int :=
 if ((r.list_.length:Int)==0) then
  some 0
 else
  ck (BC (i64.wrap ((r.list_.length:Int)-1)) r.list_.length) <|
  some ((r.list_.getD (i64.wrap ((r.list_.length:Int)-1)).toNat default).Day)
def Cn (r:Hu) (t2:Bool):Int->Option (Int⊕Int)
 | end_=>
  ck (!(decide (end_<(r.s_.length:Int)))||BC end_ r.s_.length) <|
  if ((decide (end_<(r.s_.length:Int)))&&(!(((r.s_.getD end_.toNat 0).toNat:Int)==10))) then
   some (.inl (i64.wrap (end_+1)))
  else
   some (.inr end_)
def HE (r:Hu):Option (Option (Int×Int×Ac)) :=
 (AS (Cn r false) r.at_).bind fun y_3=>
 if (decide ((r.s_.length:Int)<=y_3)) then
  some (none)
 else
  ck (JG r.at_ y_3 r.s_.length) <|
  (Ig (cut r.s_ r.at_ y_3) (32:UInt8)).bind fun y_6=>
  if (!((y_6.length:Int)==4)) then
   some (none)
  else
   ck (BC 0 y_6.length) <|
   (GV (y_6.getD 0 default)).bind fun y_9=>
   ck (BC 2 y_6.length) <|
   (GV (y_6.getD 2 default)).bind fun y_11=>
   ck (BC 1 y_6.length) <|
   ck (!(!((!y_9.2)||(!y_11.2)))||(Ir (Ac.mk y_9.1 (y_6.getD 1 default) y_11.1)).isSome) <|
   ck (!(!(((!y_9.2)||(!y_11.2))||(!((Ir (Ac.mk y_9.1 (y_6.getD 1 default) y_11.1)).getD default))))||(Hc r).isSome) <|
   if ((((!y_9.2)||(!y_11.2))||(!((Ir (Ac.mk y_9.1 (y_6.getD 1 default) y_11.1)).getD default)))||(decide (y_9.1<((Hc r).getD default)))) then
    some (none)
   else
    (Ha (Ac.mk y_9.1 (y_6.getD 1 default) y_11.1)).bind fun y_16=>
    (Hb r.stamp_ y_16).bind fun y_17=>
    (JN y_17 (Ac.mk y_9.1 (y_6.getD 1 default) y_11.1)).bind fun y_18=>
    ck (JG r.at_ (i64.wrap (y_3+1)) r.s_.length) <|
    if (!(y_18==(cut r.s_ r.at_ (i64.wrap (y_3+1))))) then
     some (none)
    else
     some (some (y_3,y_17,(Ac.mk y_9.1 (y_6.getD 1 default) y_11.1)))
def GS (r:Hu):Option (Bool×Hu) :=
 (HE r).bind fun y=>
 match y with
 | none=>some (false,r)
 | some q=>
  ck (EY (r.list_.length+([q.2.2]:List Ac).length) 32) <|
  some (true,Hu.mk r.s_ (i64.wrap (q.1+1)) q.2.1 (r.list_++[q.2.2]))
def FT:Hu->Option (Hu⊕Hu)
 | r=>(GS r).bind fun y=>if y.1 then some (.inl y.2) else some (.inr y.2)
def Fh (s_:List UInt8):Option Hu:=AS FT (Hu.mk s_ 0 0 [])
def JO (s_:List UInt8):Option (Hu×Int) :=
 if (decide (4000<(s_.length:Int))) then
  some ((Hu.mk [] 0 0 ([]:List Ac)),5)
 else
  (Fh s_).bind fun y_2=>
  if (!(y_2.at_==(s_.length:Int))) then
   some (y_2,8)
  else
   some (y_2,0)
def EC (n:Int):Option Bool :=
 (GD n 0 86399).bind fun y_1=>
 some y_1
def Gs (n:Int):Option Bool :=
 (GD n (-324000) 324000).bind fun y_1=>
 some y_1
def ED (m:Int):Option Bool :=
 (GD m (-2000) 20000).bind fun y_1=>
 some y_1
def KI (x:Star):Option Bool :=
 (Co x.Name).bind fun y_1=>
 ck (!y_1||(EC x.Ascend).isSome) <|
 ck (!(y_1&&((EC x.Ascend).getD default))||(Gs x.Decl).isSome) <|
 ck (!((y_1&&((EC x.Ascend).getD default))&&((Gs x.Decl).getD default))||(ED x.Bright).isSome) <|
 ck (!(((y_1&&((EC x.Ascend).getD default))&&((Gs x.Decl).getD default))&&((ED x.Bright).getD default))||(ED x.Faint).isSome) <|
 some (((((y_1&&((EC x.Ascend).getD default))&&((Gs x.Decl).getD default))&&((ED x.Bright).getD default))&&((ED x.Faint).getD default))&&(decide (x.Bright<=x.Faint)))
def GB (list:List Star):Int->Option (Int⊕(Unit⊕Bool))
 | i=>
  if (decide (i<(list.length:Int))) then
   ck (BC i list.length) <|
   (KI (list.getD i.toNat default)).bind fun y_3=>
   ck (!((!(!y_3))&&(decide (0<i)))||BC (i64.wrap (i-1)) list.length) <|
   if ((!y_3)||((decide (0<i))&&(!(Op.bytesLess ((list.getD (i64.wrap (i-1)).toNat default).Name) ((list.getD i.toNat default).Name))))) then
    some (.inr (.inr false))
   else
    some (.inl (i64.wrap (i+1)))
  else
   some (.inr (.inl ()))
def LI (list:List Star):Option Bool :=
 (AS (GB list) 0).bind fun y_6=>
 match y_6 with
 | .inl y_6a=>
  some (decide ((list.length:Int)<=60))
 | .inr y_6b=>
  some y_6b
def Kj (n:Int):Option Bool :=
 (GD n 0 10000000).bind fun y_1=>
 some y_1
def KH (e_:AD):Option Bool :=
 (Kj e_.Time).bind fun y_1=>
 ck (!y_1||(Co e_.Star).isSome) <|
 ck (!(y_1&&((Co e_.Star).getD default))||(Co e_.Observer).isSome) <|
 ck (!((y_1&&((Co e_.Star).getD default))&&((Co e_.Observer).getD default))||(ED e_.Mag).isSome) <|
 some (((y_1&&((Co e_.Star).getD default))&&((Co e_.Observer).getD default))&&((ED e_.Mag).getD default))
def GU (a:AD) (b:AD):Option Bool :=
 if (!(a.Time==b.Time)) then
  some (decide (a.Time<b.Time))
 else
  if (!(a.Star==b.Star)) then
   some (Op.bytesLess a.Star b.Star)
  else
   some (Op.bytesLess a.Observer b.Observer)
def GA (list:List AD):Int->Option (Int⊕(Unit⊕Bool))
 | i=>
  if (decide (i<(list.length:Int))) then
   ck (BC i list.length) <|
   (KH (list.getD i.toNat default)).bind fun y_3=>
   ck (!((!(!y_3))&&(decide (0<i)))||BC (i64.wrap (i-1)) list.length) <|
   ck (!((!(!y_3))&&(decide (0<i)))||(GU (list.getD (i64.wrap (i-1)).toNat default) (list.getD i.toNat default)).isSome) <|
   if ((!y_3)||((decide (0<i))&&(!((GU (list.getD (i64.wrap (i-1)).toNat default) (list.getD i.toNat default)).getD default)))) then
    some (.inr (.inr false))
   else
    some (.inl (i64.wrap (i+1)))
  else
   some (.inr (.inl ()))
def Js (list:List AD):Option Bool :=
 (AS (GA list) 0).bind fun y_7=>
 match y_7 with
 | .inl y_7a=>
  some (decide ((list.length:Int)<=100))
 | .inr y_7b=>
  some y_7b
def HW (d:Bc):Int->Option (Int⊕(Unit⊕Bool))
 | i=>
  if (decide (i<(d.Estimates.length:Int))) then
   ck (BC i d.Estimates.length) <|
   (JP d.Stars ((d.Estimates.getD i.toNat default).Star)).bind fun y_7=>
   if (decide (y_7<0)) then
    some (.inr (.inr false))
   else
    some (.inl (i64.wrap (i+1)))
  else
   some (.inr (.inl ()))
def LH (d:Bc):Option Bool :=
 (JO d.Log).bind fun y_1=>
 (LI d.Stars).bind fun y_2=>
 ck (!(!(!y_2))||(Js d.Estimates).isSome) <|
 if (((!y_2)||(!((Js d.Estimates).getD default)))||(!(y_1.2==0))) then
  some false
 else
  (AS (HW d) 0).bind fun y_9=>
  match y_9 with
  | .inl y_9a=>
   some true
  | .inr y_9b=>
   some y_9b
def Ev (d:Bc):Option Bool :=
 (LH d).bind fun y_1=>
 some y_1
def Hf (d:Bc):Option (List UInt8) :=
 (Gc d).bind fun y_1=>
 if (!y_1) then
  some ([]:List UInt8)
 else
  (Dc d).bind fun y_3=>
  some y_3
def Ck:List (List UInt8)->List UInt8
 | []=>[]
 | x::r=>x++10::Ck r
def CK:Nat->List UInt8->Bc->List UInt8->Option (List UInt8)
 | 0,text,_,acc=>if text=[] then some acc else ck (decide (acc.length+11<=1099511627776)) <| some (acc++[101,114,114,111,114,32,102,117,108,108,10])
 | k+1,text,d,acc=>
  if text=[] then some acc else
  (Vr text [10]).bind fun y=>
  (He d y.1).bind fun z=>
  ck (decide ((acc++Ck (if z.2.2=true then z.2.1 else [[63]])).length<=1099511627776)&&decide (z.2.1.length<=1099511627776)) <|
  CK k y.2.1 (if z.2.2=true then z.1 else d) (acc++Ck (if z.2.2=true then z.2.1 else [[63]]))
def Ed (text:List UInt8):Option (List UInt8) :=
 IU.bind fun d=>CK 60 text d []
def Da (lines:List (List UInt8)) (d:Bc) (text:List UInt8) (i:Int) (next_:Bc) (out:List (List UInt8)):((List UInt8)×Int)->Option (((List UInt8)×Int)⊕(List UInt8))
 | (want,k)=>
  if (decide (k<(out.length:Int))) then
   ck (BC k out.length) <|
   ck (DW (out.getD k.toNat default).length ([10]:List UInt8).length) <|
   ck (DW want.length ((out.getD k.toNat default)++([10]:List UInt8)).length) <|
   some (.inl ((want++((out.getD k.toNat default)++([10]:List UInt8))),(i64.wrap (k+1))))
  else
   some (.inr want)
def Db (lines:List (List UInt8)):(Bc×(List UInt8)×(List UInt8)×Int)->Option ((Bc×(List UInt8)×(List UInt8)×Int)⊕(((List UInt8)×(List UInt8))⊕Bool))
 | (d,text,want,i)=>
  if (decide (i<(lines.length:Int))) then
   ck (BC i lines.length) <|
   ck (DW (lines.getD i.toNat default).length ([10]:List UInt8).length) <|
   ck (DW text.length ((lines.getD i.toNat default)++([10]:List UInt8)).length) <|
   (Gf d (lines.getD i.toNat default)).bind fun y_9=>
   if (y_9.2.2==7) then
    ck (DW want.length ([63,10]:List UInt8).length) <|
    some (.inl (d,(text++((lines.getD i.toNat default)++([10]:List UInt8))),(want++([63,10]:List UInt8)),(i64.wrap (i+1))))
   else
    ck (!(!(!(y_9.2.2==0)))||(Ev y_9.1).isSome) <|
    ck (!(!(((!(y_9.2.2==0))||(!((Ev y_9.1).getD default)))||(decide ((y_9.2.1.length:Int)<1))))||(Hf y_9.1).isSome) <|
    if ((((!(y_9.2.2==0))||(!((Ev y_9.1).getD default)))||(decide ((y_9.2.1.length:Int)<1)))||(((Hf y_9.1).getD default)==([]:List UInt8))) then
     some (.inr (.inr false))
    else
     (AS (Da lines d (text++((lines.getD i.toNat default)++([10]:List UInt8))) i y_9.1 y_9.2.1) (want,0)).bind fun y_19=>
     some (.inl (y_9.1,(text++((lines.getD i.toNat default)++([10]:List UInt8))),y_19,(i64.wrap (i+1))))
  else
   some (.inr (.inl (text,want)))
def JX (code:List UInt8):Option Bool :=
 (Lr code ([]:List UInt8)).bind fun y_1=>
 if y_1 then
  some true
 else
  (JQ code).bind fun y_3=>
  (IU).bind fun y_4=>
  (AS (Db y_3) (y_4,([]:List UInt8),([]:List UInt8),0)).bind fun y_20=>
  match y_20 with
  | .inl y_20a=>
   (Ed y_20a.1).bind fun y_21=>
   some (y_21==y_20a.2)
  | .inr y_20b=>
   some y_20b
