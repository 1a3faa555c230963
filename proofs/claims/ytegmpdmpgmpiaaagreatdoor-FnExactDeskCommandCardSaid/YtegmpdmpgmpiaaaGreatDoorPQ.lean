/- Lemmas. No condition. -/
import Derived.Test.YtegmpdmpgmpiaaaGreatDoorPJ
open Array renaming getElem?_eq_none->b9,setIfInBounds_comm->bo
open Bool renaming true->b5,false->bR,not_eq_true'->b'
open Go renaming World->b3,Calls->b7,ready_mono->bI,heap_setCell_same->bS,mem_ready->cd,Oper->cm,wpOp_mono->ct,yielded->cA,wpAny->cS,getD_set_ne->c',undef->df,Program->dw
open Go.Proofs.Tryz renaming prog->b2
open Go.Region renaming ready->b6,binds->b8,wanted->bh,Mode->c7,noSelect->cc,noSelect_spec->cf,free->cl,free_spec->cw
open List renaming map->aj,contains_iff_mem->bN,all_eq_true->c8,range->cn,length_cons->cB,length_nil->cI,mem_range->dc
open Nat renaming lt_or_ge->c6
open Option renaming some->b4,none->bX
set_option linter.defProp false
set_option linter.unusedSimpArgs false
set_option linter.unusedVariables false
set_option maxRecDepth 100000
namespace Go.Proofs.YtegmpdmpgmpiaaaGreatDoor
open Go Go.RowKit
structure Own(N sz:Nat)(w:b3)(v:Value)(els:List AV)(b cap:Nat):Prop where
 v:v = .slice (b4 ⟨b,0,bX⟩) els.length cap\/(cap=0/\v = .slice bX 0 0)
 ge:0<cap->N<=b
 home:Hy C' w b cap sz els
 fl:∀i,i<els.length->((els.getD i .any).cells).all Kb=b5
variable{N sz b cap:Nat}{w:b3}{v:Value}{els:List AV}
def Own.lt(h:Own N sz w v els b cap)(j:0<cap):b<w.heap.size:=h.home.lt j
def Own.at{N sz:Nat}{w:b3}{v:Value}{els:List AV}{b cap:Nat}(h:Own N sz w v els b cap)(S:Nat->Prop):Hy S w b cap sz els:=QM h.fl h.home
def Own.same{N sz:Nat}{K:Nat->Prop}{w w':b3}{v:Value}{els:List AV}{b cap:Nat}(h:Own N sz w v els b cap)(hs:AD K w w')(hb:0<cap->¬ K b):Own N sz w' v els b cap :=
 ⟨h.v,h.ge,QM h.fl ((h.at K).mono hs (fun j=>hs.block b (h.lt j) (hb j)) fun _ _=>id),h.fl⟩
def Own.sl{N sz:Nat}{S:Nat->Prop}{w:b3}{v:Value}{els:List AV}{b cap:Nat}(h:Own N sz w v els b cap)(C:0<cap->¬ S b):VR S w v (.sl sz els):=by
 obtain⟨r,j⟩:=(h.at S).cell;obtain⟨I,h2,-⟩:=(h.at S).sl (S':=S) j (fun _=>id) C;rcases h.v with e|⟨e,J⟩
 .rw[e];exact I
 .rw[J];exact h2 e
def FR1(N:Nat)(w:b3)(v:Value):AV->Prop
 |.fresh sz els=>∃b cap,(v = .slice (b4 ⟨b,0,bX⟩) els.length cap\/(cap=0/\v = .slice bX 0 0))/\(0<cap->N<=b)/\Hy C' w b cap sz els
 |.mem _ _ _=>True
 |a=>VR C' w v a
def FRs(N:Nat)(w:b3)(v:Value):AV->Prop
 |.tup C=>∃vs,v = .tuple vs/\vs.size=C.length/\∀j,j<C.length->FR1 N w (vs.getD j df) (C.getD j .any)
 |a=>FR1 N w v a
variable{S:Nat->Prop}{g:Gh}{ob:Cx}
def ABP{k:Nat}{a:AV}(I:∀k h,AK k ob=b4 h->Hy S w (g.β k) (g.cap k) h.sz h.els)(J:∀k,Mo g ob k->N<=g.β k)(h:yj S w g ob k v a):FR1 N w v a:=by
 have sub:∀{u:Value} {a:AV},VR S w u a->VR C' w u a:=fun h=>h.mono (AD.refl _ _) fun _ _ c=>c.elim
 cases a
 case fresh sz els=>
  obtain⟨j,h2⟩:=h;exact⟨_,_,h2,fun C=>J k ⟨⟨_,j⟩,C⟩,(I k _ j).mono (AD.refl _ _) (fun _=>rfl) fun _ _ c=>c.elim⟩
 case mem=>trivial
 all_goals exact sub h
def ALQ{κ:Nat->Nat}{r:AV}(I:∀k h,AK k ob=b4 h->Hy S w (g.β k) (g.cap k) h.sz h.els)(J:∀k,Mo g ob k->N<=g.β k)(h:RV S w g ob κ v r):FRs N w v r:=by
 unfold RV at h;split at h
 .obtain⟨vs,rfl,R,C⟩:=h;exact⟨vs,rfl,R,fun j U=>ABP I J (C j U)⟩
 .unfold FRs;split
  .rename_i h9;exact absurd rfl (h9 _)
  .exact ABP I J h
def PS{P:dw}{f:FuncId}{C:Ao}{fu:Func}{c:Code}(hC:Cd P f C)(hf:P.funcs[f]? = b4 fu)(hb:fu.body=b4 c)(hn:(fu.name == "runtime.NumGoroutine")=bR)
  {args:List AV} {vargs:Array Value} {w:b3} (ao:vargs.size=args.length) (au:GN C.modes args=b5) (U:args.all (fun a=>!Ho a)=b5) (hv:∀j,j<args.length->VR C' w (vargs.getD j df) (args.getD j .any)) (ay:GT C' w) {r:AV} {outs:List AV}
  (hF:C.F args=⟨b5,r,outs⟩):b7 P f vargs w fun e w'=>∃v,e = .returned v/\AD C' w w'/\FRs w.heap.size w' v r:=by
 have J:∀j,Ho (args.getD j .any)=bR:=by
  intro j;simp only[c8,b']at U;rw[gdE];cases hj:args[j]? with
  |none=>rfl
  |some a=>exact U a (List.mem_of_getElem? hj)
 have I:∀k,¬ Lb (BN 0 args) k:=by
  rintro k ⟨hm,hg⟩;obtain⟨j,_,hf⟩:=Kp hg;have:=J j;revert hf this;generalize args.getD j .any=x;intro hf this;cases x<;>simp[IC,Ho]at hf this
 have a1:FR C' ⟨fun _=>0,fun _=>0⟩ w vargs (cn args.length) [] (Mh args):=by
  refine⟨fun k hm hg=>(I k ⟨hm,hg⟩).elim,fun k _ R=>(I k R.1).elim,fun k R=>(I k R.1).elim,fun b hb=>hb.elim,by simp[Mh,Ko],rfl,fun j hj=>?_,fun j hj=>by simp at hj,fun t ht=>?_,ay.mono (AD.refl _ _) fun b _ hb=>?_⟩
  .have ab:j<args.length:=by simpa using hj
   have e1:(cn args.length).getD j 0=j:=by rw[gdE,List.getElem?_range ab];rfl
   rw[e1];simp only[Mh];rw[Ln _ 0 j ab,Nat.zero_add]
   have e2:YO j (args.getD j .any)=args.getD j .any:=by
    have:=J j;revert this;generalize args.getD j .any=x;intro this;cases x<;>first|rfl|(simp[Ho]at this)
   rw[e2];refine((hv j ab).mono (AD.refl _ _) fun b _ hb=>?_).toSR;rcases hb with hb|⟨k,R,_⟩
   .exact hb
   .exact I k R.1
  .rcases ht with ht|ht
   .have:=dc.1 ht;omega
   .simp at ht
  .rcases hb with hb|⟨k,R,_⟩
   .exact hb
   .exact I k R.1
 have h:=(hC.2 _ _ w args vargs au ao a1 (by rw[hF])).2;rw[hF]at h;unfold DJ at h;rw[LD hf hb hn]at h;refine Calls.mono h fun e w' he=>?_
 obtain⟨v,g,ob,κ,rfl,B⟩:=he;have aa:AD C' w w':=B.same.mono fun b _ ⟨k,R,_⟩=>(I k R.1).elim
 have hN:∀k,Mo g ob k->w.heap.size<=g.β k:=fun k R=>(B.hio k R).elim id fun⟨k',ax,_⟩=>(I k' ax.1).elim
 refine⟨v,rfl,aa,?_⟩;exact ALQ B.home hN B.val
def lE{P:dw}{f:FuncId}{C:Ao}{fu:Func}{c:Code}(hC:Cd P f C)(R:P.funcs[f]? = b4 fu)(hb:fu.body=b4 c)(hn:(fu.name == "runtime.NumGoroutine")=bR)
   {I:List AV}  {k k':Int}  {o1:AV} (hm:C.modes=[.io,.bor]) (ho:Own N sz w v els b cap) (ay:GT (fun x=>0<cap/\x=b) w)
  (hF:C.F [.fresh sz els,.int .i64 k]=⟨b5,.int .i64 k',[.fresh sz I,o1]⟩) (fl:∀i,i<I.length->((I.getD i .any).cells).all Kb=b5) :
  b7 P f #[v,.int .i64 k] w fun e w'=>e = .returned (.int .i64 k')/\AD (fun x=>0<cap/\x=b) w w'/\Own N sz w' v I b cap:=by
 have J:∀q,Mo ⟨fun _=>b,fun _=>cap⟩ (BN 0 [.fresh sz els,.int .i64 k]) q ↔ q=AF 0/\0<cap:=by
  intro q;constructor
  .rintro⟨⟨hm,hg⟩,hp⟩;obtain⟨j,hj,R⟩:=Kp hg;refine⟨?_,hp⟩
   match j with
   |0=>exact hj
   |1=>simp[IC]at R
   |j+2=>simp[IC]at R
  .rintro⟨rfl,hp⟩;exact⟨⟨⟨sz,els⟩,rfl⟩,hp⟩
 have hS:∀x,AR C' ⟨fun _=>b,fun _=>cap⟩ (BN 0 [.fresh sz els,.int .i64 k]) x->0<cap/\x=b:=by
  rintro x (c|⟨q,hq,e⟩)
  .exact c.elim
  .exact⟨((J q).1 hq).2,e.symm⟩
 have az:FR C' ⟨fun _=>b,fun _=>cap⟩ w #[v,.int .i64 k] (cn 2) [] (Mh [.fresh sz els,.int .i64 k]):=by
  refine⟨fun q hm hg=>?_,fun q q' h1 h2 _=>((J q).1 h1).1.trans ((J q').1 h2).1.symm,fun q hk c=>c.elim,fun b hb=>hb.elim,rfl,rfl,fun j hj=>?_,fun j hj=>by simp at hj,fun t ht=>?_,ay.mono (AD.refl _ _) fun x _ hx=>hS x hx⟩
  .obtain⟨j,hj,R⟩:=Kp hg
   match j with
   |0=>obtain rfl:=Option.some.inj R;exact ho.at _
   |1=>simp[IC]at R
   |j+2=>simp[IC]at R
  .match j,hj with
   |0,_=>exact⟨⟨sz,els⟩,rfl,ho.v⟩
   |1,_=>exact VR.int.toSR
  .rcases ht with ht|ht
   .have:=dc.1 ht;simpa using this
   .simp at ht
 have h:=(hC.2 _ _ w [.fresh sz els,.int .i64 k] #[v,.int .i64 k] (by rw[hm];rfl) rfl az (by rw[hF])).2;rw[hF]at h;unfold DJ at h;rw[LD R hb hn]at h;refine Calls.mono h fun e w' he=>?_
 obtain⟨u,g,ob,κ,rfl,B⟩:=he;have U:AD (fun x=>0<cap/\x=b) w w':=B.same.mono fun x _ ⟨q,hq,e⟩=>⟨((J q).1 hq).2,e.symm⟩
 have ab:VR _ w' u (.int .i64 k'):=B.val;cases ab
 refine⟨rfl,U,?_⟩;obtain⟨s1,e0,e1,hh,hl,hg,hβ,hc⟩:=B.out 0 (by rw[hm];rfl);rcases hh with⟨ha,a1⟩|⟨i,i',ha,-⟩
 .obtain⟨rfl,rfl⟩:sz=s1/\els=e0:=by
   have:AV.fresh sz els=AV.fresh s1 e0:=ha;injection this with x y;exact⟨x,y⟩
  obtain rfl:I=e1:=by
   have:AV.fresh sz I=AV.fresh sz e1:=a1;injection this
  have hH:=B.home _ _ hg;rw[hβ,hc]at hH;exact⟨ho.v.imp (fun e=>by rw[e,hl]) id,ho.ge,QM fl hH,fl⟩
 .exact AV.noConfusion ha
end Go.Proofs.YtegmpdmpgmpiaaaGreatDoor
namespace Go.Proofs.YtegmpdmpgmpiaaaGreatDoor
open Go
section
variable {P:dw}{ops:Array cm}{Q:Exit->Act->b3->Prop}{md:c7}{S:b3->Prop}
def yr(P:dw)(md:c7)(ops:Array cm)(Q:Exit->Act->b3->Prop)(S:b3->Prop)(c:Nat):Nat->Array Bool->Act->b3->Prop
 |0,listed,a,w=>b6 md ops listed=[]/\Q .normal a w
 |fuel+1,listed,a,w=>(b6 md ops listed=[]->Q .normal a w) /\ ∀i∈b6 md ops listed,wpOp P ops Q i (fun a' w'=>(i=c/\cS P md ops Q fuel (listed.setIfInBounds i b5) a' w')\/(i≠c/\S w'/\yr P md ops Q S c fuel (listed.setIfInBounds i b5) a' w')) a w
def sk{c:Nat}:∀(fuel:Nat) (listed:Array Bool) (a:Act) (w:b3),yr P md ops Q S c fuel listed a w->cS P md ops Q fuel listed a w
 |0,_,_,_,h=>h
 |fuel+1,_,_,_,h=>⟨h.1,fun i hi=>ct (fun a' w' j=>j.elim And.right fun h=>sk fuel _ a' w' h.2.2) (h.2 i hi)⟩
def rq(md:c7)(ops:Array cm)(i:Nat)(B:List Nat):Bool :=B.all fun k=>k==i||match ops[k]? with
  |some o=>o.after.toList.any fun e=>b8 md e&&B.contains e.on
  |none=>bR
variable{i C:Nat}{j:Array Bool}{B:List Nat}
def yU{j:Nat}{C:Array Bool}(hB:rq md ops i B=b5)(hu:∀k∈B,C.getD k b5=bR)(hj:j∈b6 md ops C)(U:j≠i):j ∉ B:=by
 intro aa;obtain⟨ad,oj,R,I⟩:=cd.1 hj;have h:=(c8.1 hB) j aa;rw[R]at h;simp only[Bool.or_eq_true,beq_iff_eq,U,false_or,List.any_eq_true,baT,bN]at h;obtain⟨e,he,hb,hm⟩:=h;have he:e∈oj.after:=by simpa using he
 have J:=I e he hb;have h0:=hu _ hm;rcases c6 e.on C.size with h' |h'
 .simp[h']at h0 J;rw[h0]at J;cases J
 .simp[b9 h']at J
variable{c:Nat}{oi:cm}{v:Value}
def wB(hi:ops[i]? = b4 oi)(R:∀(j:Nat) (o:cm) cs b,ops[j]? = b4 o->o.op ≠ .select cs b)
  (hQ:∀c a w,Q (.panic c) (a.put oi.dst v) w->Q (.panic c) a w) (hB:rq md ops i B=b5) (b1:c∈B) (a6:i≠c) :
  ∀ (fuel:Nat) (listed:Array Bool) (a:Act) (w:b3),
   (∀j oj,ops[j]? = b4 oj->j≠i->listed.getD j b5=bR->(∀e∈oj.after,b8 md e=b5->e.on≠i)->oi.apart ops oj=b5) ->
   (∀k∈B,listed.getD k b5=bR) ->
   i∈b6 md ops listed->YieldsIf P ops S oi v a->S w ->
   yr P md ops Q S c fuel (listed.setIfInBounds i b5) (a.put oi.dst v) w->yr P md ops Q S c (fuel+1) listed a w:=by
 intro fuel
 induction fuel with
 | zero=>
  intro listed a w _ _ hr hy hS H;refine⟨fun h=>(by rw[h]at hr;cases hr),fun j hj=>?_⟩
  by_cases C:j=i
  .subst C;exact hy.wpOp hi hS (.inr ⟨a6,hS,H⟩)
  .have:=bI hj C;rw[H.1]at this;cases this
 | succ fuel ih=>
  intro listed a w I hu hr hy hS H;refine⟨fun h=>(by rw[h]at hr;cases hr),fun j hj=>?_⟩
  by_cases C:j=i
  .subst C;exact hy.wpOp hi hS (.inr ⟨a6,hS,H⟩)
  .have az:=yU hB hu hj C;have ay:j≠c:=fun e=>az (e▸b1)
   have h1:=H.2 j (bI hj C);obtain⟨U,oj,ae,a7⟩:=cd.1 hj
   have au:∀e∈oj.after,b8 md e=b5->e.on≠i:=fun e he hb heq=>by
    have h1:=a7 e he hb;have h0:=(cd.1 hr).1;rw[heq]at h1;rcases c6 i listed.size with h' |h'
    .simp[h']at h0 h1;rw[h0]at h1;cases h1
    .simp[b9 h']at h1
   have h2:=wpOp_putIf ae (I j oj ae C U au) (fun cs b=>R i oi cs b hi) (fun cs b=>R j oj cs b ae) hQ hy h1
   have J:∀k ok,ops[k]? = b4 ok->k≠i->(listed.setIfInBounds j b5).getD k b5=bR ->
     (∀e∈ok.after,b8 md e=b5->e.on≠i)->oi.apart ops ok=true:=fun k ok hk b0 ao bz=>by
    refine I k ok hk b0 ?_ bz
    by_cases ax:j=k
    .subst ax;exact U
    .rw[c' b5 ax]at ao;exact ao
   have bs:∀k∈B,(listed.setIfInBounds j b5).getD k b5=false:=fun k hk=>by
    rw[c' b5 (fun e=>az (by rw[e];exact hk))];exact hu k hk
   refine ct (fun a' w' h3=>?_) h2;rcases h3.2 with⟨e,_⟩|⟨_,a8,h4⟩
   .exact absurd e ay
   .refine .inr ⟨ay,a8,ih (listed.setIfInBounds j b5) a' w' J bs (bI hr (Ne.symm C)) h3.1 a8 ?_⟩;rw[bo _ _ C];exact h4
def qC(hi:ops[i]? = b4 oi)(J:∀(j:Nat) (o:cm) cs b,ops[j]? = b4 o->o.op ≠ .select cs b)
  (hQ:∀c a w,Q (.panic c) (a.put oi.dst v) w->Q (.panic c) a w) (ay:i≠c) :
  ∀ (fuel:Nat) (listed:Array Bool) (a:Act) (w:b3),
   (∀j oj,ops[j]? = b4 oj->j≠i->listed.getD j b5=bR->(∀e∈oj.after,b8 md e=b5->e.on≠i)->oi.apart ops oj=b5) ->
   i∈b6 md ops listed->Yields P ops oi v a->S w ->
   yr P md ops Q S c fuel (listed.setIfInBounds i b5) (a.put oi.dst v) w->yr P md ops Q S c (fuel+1) listed a w:=by
 intro fuel
 induction fuel with
 | zero=>
  intro listed a w _ U hy hS H;refine⟨fun h=>(by rw[h]at U;cases U),fun j hj=>?_⟩
  by_cases C:j=i
  .subst C;exact hy.wpOp hi (.inr ⟨ay,hS,H⟩)
  .have:=bI hj C;rw[H.1]at this;cases this
 | succ fuel ih=>
  intro listed a w R U hy hS H;refine⟨fun h=>(by rw[h]at U;cases U),fun j hj=>?_⟩
  by_cases C:j=i
  .subst C;exact hy.wpOp hi (.inr ⟨ay,hS,H⟩)
  .have h1:=H.2 j (bI hj C);obtain⟨aa,oj,ae,az⟩:=cd.1 hj
   have au:∀e∈oj.after,b8 md e=b5->e.on≠i:=fun e he hb heq=>by
    have h1:=az e he hb;have h0:=(cd.1 U).1;rw[heq]at h1;rcases c6 i listed.size with h' |h'
    .simp[h']at h0 h1;rw[h0]at h1;cases h1
    .simp[b9 h']at h1
   have h2:=wpOp_put ae (R j oj ae C aa au) (fun cs b=>J i oi cs b hi) (fun cs b=>J j oj cs b ae) hQ hy h1
   have I:∀k ok,ops[k]? = b4 ok->k≠i->(listed.setIfInBounds j b5).getD k b5=bR ->
     (∀e∈ok.after,b8 md e=b5->e.on≠i)->oi.apart ops ok=true:=fun k ok hk be ao a8=>by
    refine R k ok hk be ?_ a8
    by_cases ax:j=k
    .subst ax;exact aa
    .rw[c' b5 ax]at ao;exact ao
   refine ct (fun a' w' h3=>?_) h2;rcases h3.2 with⟨e,h4⟩|⟨e,a1,h4⟩
   .refine .inl ⟨e,wpAny_first hi J hQ fuel (listed.setIfInBounds j b5) a' w' I (bI U (Ne.symm C)) h3.1 ?_⟩;rw[bo _ _ C];exact h4
   .refine .inr ⟨e,a1,ih (listed.setIfInBounds j b5) a' w' I (bI U (Ne.symm C)) h3.1 a1 ?_⟩;rw[bo _ _ C];exact h4
def Ek(i:Nat){c:Nat}{I:cm}{v:Value}{C:Nat}{j:Array Bool}{a:Act}{w:b3}(hS:S w)(J:(cc ops&&cl md ops j i&&(b6 md ops j).contains i && !(i==c))=b5:=by kernel_rfl)(hi:ops[i]? = b4 I:=by rfl)
  (hQ:∀c a w,Q (.panic c) (a.put I.dst v) w->Q (.panic c) a w:=by exact fun _ _ _ h=>h) (R:bh I (cA ops a.tmps)=b5:=by rfl) (U:∀w,(execOp a.eval I).run P w = .ok (.value v) w:=by(intro w;go_simp;try with_reducible rfl))
  (h:yr P md ops Q S c C (j.setIfInBounds i b5) (a.put I.dst v) w):yr P md ops Q S c (C+1) j a w:=by
 simp only[baT,b',beq_eq_false_iff_ne,bN]at J;obtain⟨⟨⟨h1,h2⟩,h3⟩,h6⟩:=J;exact qC hi (cf h1) hQ h6 C j a w (cw hi h2) h3 (.inl ⟨R,U⟩) hS h
def okX(md:c7)(ops:Array cm)(j:Array Bool)(i c:Nat)(B:List Nat):Bool :=cc ops&&cl md ops j i&&(b6 md ops j).contains i&&rq md ops i B&&B.contains c && !(i==c)&&B.all fun k=>!j.getD k b5
def Lt(i:Nat)(B:List Nat){c:Nat}{I:cm}{v:Value}{C:Nat}{j:Array Bool}{a:Act}{w:b3}(J:S w)(R:okX md ops j i c B=b5:=by kernel_rfl)(hi:ops[i]? = b4 I:=by rfl)
  (hQ:∀c a w,Q (.panic c) (a.put I.dst v) w->Q (.panic c) a w:=by exact fun _ _ _ h=>h) (U:bh I (cA ops a.tmps)=b5:=by rfl) (hv:∀w,S w->(execOp a.eval I).run P w = .ok (.value v) w:=by(intro w J;(try dsimp only at J);go_split_ands;go_simp;try with_reducible rfl))
  (h:yr P md ops Q S c C (j.setIfInBounds i b5) (a.put I.dst v) w):yr P md ops Q S c (C+1) j a w:=by
 simp only[okX,baT,b',beq_eq_false_iff_ne,bN,c8]at R;obtain⟨⟨⟨⟨⟨⟨h1,h2⟩,h3⟩,h4⟩,h5⟩,h6⟩,h7⟩:=R;exact wB hi (cf h1) hQ h4 h5 h6 C j a w (cw hi h2) h7 h3 (.inl ⟨U,hv⟩) J h
variable{o:cm}{a:Act}{w:b3}
def ABx(I:b6 md ops j=[c])(R:ops[c]? = b4 o)
  (h:∀J:Act->b3->Prop,(∀a w,cS P md ops Q C (j.setIfInBounds c b5) a w->J a w)->if bh o (cA ops a.tmps)=b5 then Oper.wp P o a w J Q else J (a.put o.dst df) w):yr P md ops Q S c (C+1) j a w :=
 ⟨fun e=>by(rw[e]at I;cases I),fun i hi=>by
  rw[I]at hi;obtain rfl:=List.mem_singleton.1 hi;exact ct (fun a' w' h=>.inl ⟨rfl,h⟩) (wpOp_step R h)⟩
def Mm(i:Nat){I:cm}{v:Value}{C:Nat}{j:Array Bool}{a:Act}{w:b3}(J:(cc ops&&cl md ops j i&&(b6 md ops j).contains i)=b5:=by kernel_rfl)(hi:ops[i]? = b4 I:=by rfl)
  (hQ:∀c a w,Q (.panic c) (a.put I.dst v) w->Q (.panic c) a w:=by exact fun _ _ _ h=>h) (R:bh I (cA ops a.tmps)=b5:=by rfl) (U:∀w,(execOp a.eval I).run P w = .ok (.value v) w:=by(intro w;go_simp;try with_reducible rfl))
  (h:cS P md ops Q C (j.setIfInBounds i b5) (a.put I.dst v) w):cS P md ops Q (C+1) j a w:=by
 simp only[baT]at J;exact wpAny_take hi J.1.1 J.1.2 J.2 hQ (.inl ⟨R,U⟩) h
def AKj(i:Nat)(J:b6 md ops j=[i])(R:ops[i]? = b4 o)
  (h:∀I:Act->b3->Prop,(∀a w,cS P md ops Q C (j.setIfInBounds i b5) a w->I a w)->if bh o (cA ops a.tmps)=b5 then Oper.wp P o a w I Q else I (a.put o.dst df) w):cS P md ops Q (C+1) j a w :=
 wpAny_ready J p' (.cons R h .nil)
def jv(c:Nat){j:Nat}{a:Act}{w:b3}(hm:P.follows .mixedOrders=b5)(h:yr P .any ops Q S c ops.size (Array.replicate ops.size bR) a w.drew):(Code.region j ops b5).wp P Q a w :=
 wp_region_any hm (sk _ _ _ _ h)
end
end Go.Proofs.YtegmpdmpgmpiaaaGreatDoor
namespace Go.Proofs.YtegmpdmpgmpiaaaGreatDoor.dsk
open Go Go.RowKit plot rdc
def rT{α:Type}(f:α->AV)(j:∀x,((f x).cells).all Kb=b5)(l:List α):∀i,i<(aj f l).length->(((aj f l).getD i .any).cells).all Kb=true:=fun i hi=>by
 have hi:i<l.length:=by simpa using hi
 rw[gdE,List.getElem?_map,geE hi];exact j _
def flS(l:List Star):∀i,i<(aj AN l).length->(((aj AN l).getD i .any).cells).all Kb=true:=rT AN (fun _=>rfl) l
def flE(l:List AA):∀i,i<(aj AC l).length->(((aj AC l).getD i .any).cells).all Kb=true:=rT AC (fun _=>rfl) l
def flT(l:List L8):∀i,i<(aj AV.str l).length->(((aj AV.str l).getD i .any).cells).all Kb=true:=rT AV.str (fun _=>rfl) l
def qs{N sz:Nat}{w:b3}{v:Value}{els:List AV}(h:FRs N w v (.fresh sz els))(fl:∀i,i<els.length->((els.getD i .any).cells).all Kb=b5):∃b cap,Own N sz w v els b cap:=by
 obtain⟨b,cap,C,h2,j⟩:=h;exact⟨b,cap,C,h2,j,fl⟩
variable{N sz:Nat}{w:b3}{v:Value}{els:List AV}
def AEe{k:Int}(h:FRs N w v (.tup [.fresh sz els,.int .i64 k]))(fl:∀i,i<els.length->((els.getD i .any).cells).all Kb=b5):∃u b cap,v = .tuple #[u,.int .i64 k]/\Own N sz w u els b cap:=by
 obtain⟨vs,rfl,C,h⟩:=h;have I:=h 0 p';have j:=h 1 p';obtain⟨l⟩:=vs
 match l,C with
 | [a,c],_=>
  have j:VR C' w c (.int .i64 k):=j;cases j
  obtain⟨b,cap,U,R,J⟩:=I;exact⟨a,b,cap,rfl,U,R,J,fl⟩
def _root_.Go.Proofs.YtegmpdmpgmpiaaaGreatDoor.Own.slice{b cap:Nat}(h:Own N sz w v els b cap):∃a n c,v = .slice a n c:=by
 rcases h.v with e|⟨_,e⟩
 .exact⟨_,_,_,e⟩
 .exact⟨_,_,_,e⟩
def _root_.Go.Proofs.YtegmpdmpgmpiaaaGreatDoor.Own.nil(N sz:Nat)(w:b3)(j:1<=sz):Own N sz w (.slice bX 0 0) [] 0 0 :=
 ⟨.inr ⟨rfl,rfl⟩,fun h=>absurd h p',⟨j,p',fun i hi=>absurd hi p',fun h=>absurd h p'⟩,fun i hi=>absurd hi p'⟩
def _root_.Go.Proofs.YtegmpdmpgmpiaaaGreatDoor.Own.mono{N M sz:Nat}{w:b3}{v:Value}{els:List AV}{b cap:Nat}(h:Own N sz w v els b cap)(hm:M<=N):Own M sz w v els b cap:=⟨h.v,fun p=>Nat.le_trans hm (h.ge p),h.home,h.fl⟩
def ZM{S:Nat->Prop}{l:List Int}(h:VR S w v (.sl 1 (aj (AV.int .i64) l)))(h0:0<l.length):
  ∃b off cap,v = .slice (b4 ⟨b,off,bX⟩) l.length cap/\b<w.heap.size/\¬ S b/\∀k,k<l.length->w.cell? ⟨b,off+k,bX⟩=b4 (.int .i64 (l.getD k default)):=by
 cases h with
 | @sl a n cap sz els b off rd U C J ha hc hw R=>
  have hl:(aj (AV.int .i64) l).length=l.length:=p'
  obtain⟨e,hS⟩:=ha n';have hb:=World.block_lt_of_cell? w ⟨b,off+(0*1+0),bX⟩ (hw 0 0 n' n');refine⟨b,off,cap,by rw[U,hl,e],hb,hS,fun k hk=>?_⟩;have I:=hw k 0 n' n';have h2:=R k 0 n' n';have j:(aj (AV.int .i64) l).getD k .any = .int .i64 (l.getD k default):=by simp[gdE,hk]
  rw[j]at h2;rw[Nat.mul_one,Nat.add_zero]at I;rw[I];have h2:VR S w (rd k 0) (.int .i64 (l.getD k default)):=h2;generalize rd k 0=u at h2;cases h2;rfl
variable{f:FuncId}{C:Ao}{c:Code}{vargs:Array Value}{r:AV}
def fz{fu:Func}{args:List AV}{outs:List AV}(hC:Cd b2 f C)(hf:b2.funcs[f]? = b4 fu)(hF:C.F args=⟨b5,r,outs⟩)(hv:∀j,j<args.length->VR C' w (vargs.getD j df) (args.getD j .any))(U:GT C' w)
  (hb:fu.body=b4 c:=by rfl) (hn:(fu.name == "runtime.NumGoroutine")=bR:=by decide +kernel) (J:vargs.size=args.length:=by rfl) (R:GN C.modes args=b5:=by rfl) (I:args.all (fun a=>!Ho a)=b5:=by rfl):b7 b2 f vargs w fun e w'=>∃u,e = .returned u∧AD C' w w'∧VR C' w' u (RY r) :=
 EZ hC hf hb hn J R I hv U hF
def ff{fu:Func}{args:List AV}{outs:List AV}(hC:Cd b2 f C)(hf:b2.funcs[f]? = b4 fu)(hF:C.F args=⟨b5,r,outs⟩)(hv:∀j,j<args.length->VR C' w (vargs.getD j df) (args.getD j .any))(U:GT C' w)
  (hb:fu.body=b4 c:=by rfl) (hn:(fu.name == "runtime.NumGoroutine")=bR:=by decide +kernel) (J:vargs.size=args.length:=by rfl) (R:GN C.modes args=b5:=by rfl) (I:args.all (fun a=>!Ho a)=b5:=by rfl):b7 b2 f vargs w fun e w'=>∃v,e = .returned v∧AD C' w w'∧FRs w.heap.size w' v r :=
 PS hC hf hb hn J R I hv U hF
abbrev RB(w:b3)(y:Value):Ending->b3->Prop:=fun e w'=>e = .returned y/\AD C' w w'
abbrev RO(w:b3)(n:Nat)(l:List AV):Ending->b3->Prop:=fun e w'=>∃u b c,e = .returned u/\AD C' w w'/\Own w.heap.size n w' u l b c
abbrev RP(w:b3)(n:Nat)(l:List AV)(k:Int):Ending->b3->Prop:=fun e w'=>∃u b c,e = .returned (.tuple #[u,.int .i64 k])/\AD C' w w'/\Own w.heap.size n w' u l b c
structure Dk(N db:Nat)(va vb:Value)(d:Ad)(ba ca bb cb:Nat)(w:b3):Prop where
 hd:w.heap[db]? = b4 (.cells #[va,vb,.string ⟨d.Log.toArray⟩] 32 (0,0))
 sa:Own N 5 w va (aj AN d.Stars) ba ca
 sb:Own N 5 w vb (aj AC d.Estimates) bb cb
 ne:0<ca->0<cb->ba≠bb
 na:0<ca->ba≠db
 nb:0<cb->bb≠db
section
variable {N db ba ca bb cb:Nat}{va vb:Value}{d:Ad}{w w':b3}
def Dk.lt(h:Dk N db va vb d ba ca bb cb w):db<w.heap.size:=by
 rcases c6 db w.heap.size with c|c
 .exact c
 .have:=h.hd;rw[b9 c]at this;cases this
def Dk.still(h:Dk N db va vb d ba ca bb cb w)(hs:AD C' w w'):Dk N db va vb d ba ca bb cb w' :=
 ⟨by rw[hs.block db h.lt id,h.hd],h.sa.same hs fun _=>id,h.sb.same hs fun _=>id,h.ne,h.na,h.nb⟩
def Dk.cells(h:Dk N db va vb d ba ca bb cb w):w.cell? ⟨db,0,bX⟩=b4 va/\w.cell? ⟨db,1,bX⟩=b4 vb/\w.cell? ⟨db,2,bX⟩=b4 (.string ⟨d.Log.toArray⟩)/\∀j,w.frozen? ⟨db,j,bX⟩=bR:=by
 refine⟨?_,?_,?_,fun j=>?_⟩;all_goals first|(unfold World.cell?;rw[h.hd];rfl)|(unfold World.frozen?;rw[h.hd];rfl)
def Dk.rva(h:Dk N db va vb d ba ca bb cb w):VR C' w va (.sl 5 (aj AN d.Stars)):=h.sa.sl fun _=>id
def Dk.rvb(h:Dk N db va vb d ba ca bb cb w):VR C' w vb (.sl 5 (aj AC d.Estimates)):=h.sb.sl fun _=>id
def Dk.av(h:Dk N db va vb d ba ca bb cb w):VR C' w (.agg #[va,vb,.string ⟨d.Log.toArray⟩]) (BC d):=by
 refine .agg rfl (fun k j=>?_) (fun k j=>?_)
 .match k,j with
  |0,_=>rfl
  |1,_=>rfl
  |2,_=>rfl
 .match k,j with
  |0,_=>exact h.rva
  |1,_=>exact h.rvb
  |2,_=>exact .str
def LZ(db k:Nat)(u:Value)(w:b3):AD (fun x=>x=db) w (w.setCell ⟨db,k,bX⟩ u):=CB ⟨db,k,bX⟩ u
def Dk.stars(h:Dk N db va vb d ba ca bb cb w){u:Value}{l:List Star}{b c:Nat}(j:Own w'.heap.size 5 w u (aj AN l) b c)(I:N<=w'.heap.size)(h2:db<w'.heap.size)(C:0<cb->bb<w'.heap.size):Dk N db u vb { d with Stars:=l } b c bb cb (w.setCell ⟨db,0,bX⟩ u) :=
 ⟨by rw[bS w db 0 _ _ _ h.hd];rfl,(j.mono I).same (LZ db 0 u w) fun p e=>(by have:=j.ge p;omega),h.sb.same (LZ db 0 u w) h.nb,fun p q e=>(by have:=j.ge p;have:=C q;omega),fun p e=>(by have:=j.ge p;omega),h.nb⟩
def Dk.ests(h:Dk N db va vb d ba ca bb cb w){u:Value}{l:List AA}{b c:Nat}(j:Own w'.heap.size 5 w u (aj AC l) b c)(I:N<=w'.heap.size)(h2:db<w'.heap.size)(C:0<ca->ba<w'.heap.size):Dk N db va u { d with Estimates:=l } ba ca b c (w.setCell ⟨db,1,bX⟩ u) :=
 ⟨by rw[bS w db 1 _ _ _ h.hd];rfl,h.sa.same (LZ db 1 u w) h.na,(j.mono I).same (LZ db 1 u w) fun p e=>(by have:=j.ge p;omega),fun p q e=>(by have:=j.ge q;have:=C p;omega),h.na,fun p e=>(by have:=j.ge p;omega)⟩
def Dk.log(h:Dk N db va vb d ba ca bb cb w)(l:L8):Dk N db va vb { d with Log:=l } ba ca bb cb (w.setCell ⟨db,2,bX⟩ (.string ⟨l.toArray⟩)) :=
 ⟨by rw[bS w db 2 _ _ _ h.hd];rfl,h.sa.same (LZ db 2 _ w) h.na,h.sb.same (LZ db 2 _ w) h.nb,h.ne,h.na,h.nb⟩
end
def pz(N db:Nat)(w:b3)(o:List L8)(k:Int)(d:Ad)(e:Ending)(w':b3):Prop:=∃va vb ba ca bb cb vo j co,e = .returned (.tuple #[vo,.int .i64 k])/\AD (fun x=>x=db) w w'/\Dk N db va vb d ba ca bb cb w'/\Own w.heap.size 1 w' vo (aj AV.str o) j co/\(0<co->(0<ca->j≠ba)/\(0<cb->j≠bb))
section
variable {w:b3}{va:Value}
variable{j:List Star}{x y:L8}
def ye{x:Star}{y:List Star×Int}(h:Fo j x=b4 y)(C:VR C' w va (.sl 5 (aj AN j)))(gt:GT C' w):
  b7 b2 157 #[va,.agg #[.string ⟨x.Name.toArray⟩,.int .i64 x.Ascend,.int .i64 x.Decl,.int .i64 x.Bright,.int .i64 x.Faint]] w (RP w 5 (aj AN y.1) y.2) :=
 (ff s_50.s Tryz.func157 (ARx h) (l28.hv2 C (l28.agg5 .str .int .int .int .int rfl)) gt).mono fun e w' ⟨u,R,h2,J⟩=>by
  obtain⟨a,b,c,rfl,I⟩:=AEe J (flS _);exact⟨a,b,c,R,h2,I⟩
def ADc{j:List AA}{x:AA}{y:List AA×Int}(h:Ce j x=b4 y)(C:VR C' w va (.sl 5 (aj AC j)))(gt:GT C' w):
  b7 b2 158 #[va,.agg #[.int .i64 x.Time,.string ⟨x.Star.toArray⟩,.string ⟨x.Observer.toArray⟩,.int .i64 x.Mag,.bool x.Fainter]] w (RP w 5 (aj AC y.1) y.2) :=
 (ff s_53.s Tryz.func158 (ARw h) (l28.hv2 C (l28.agg5 .int .str .str .int .bool rfl)) gt).mono fun e w' ⟨u,R,h2,J⟩=>by
  obtain⟨a,b,c,rfl,I⟩:=AEe J (flE _);exact⟨a,b,c,R,h2,I⟩
def xk{y:Bool}(h:EC j x=b4 y)(C:VR C' w va (.sl 5 (aj AN j)))(gt:GT C' w):
  b7 b2 71 #[va,.string ⟨x.toArray⟩] w (RB w (.bool y)) :=
 (fz s_47.s Tryz.func71 (ARy h) (l28.hv2 C .str) gt).mono fun e w' ⟨u,J,h2,I⟩=>by cases I;exact⟨J,h2⟩
def sP{log:L8}{x:AU}{y:L8×Int}(h:Du log x=b4 y)(gt:GT C' w):
  b7 b2 159 #[.string ⟨log.toArray⟩,.agg #[.int .i64 x.Day,.string ⟨x.What.toArray⟩,.int .i64 x.Value]] w (RB w (.tuple #[.string ⟨y.1.toArray⟩,.int .i64 y.2])) :=
 (fz s_61.s Tryz.func159 (ARv h) (l28.hv2 .str (l28.agg3 .int .str .int rfl)) gt).mono fun e w' ⟨u,I,h2,C⟩=>by
  obtain⟨a,rfl,j⟩:=l28.tup2_inv C;cases j
  exact⟨I,h2⟩
def qD{log:L8}{y:List Int×Int}(h:Ds log x=b4 y)(gt:GT C' w):
  b7 b2 160 #[.string ⟨log.toArray⟩,.string ⟨x.toArray⟩] w fun e w'=>∃u,e = .returned (.tuple #[u,.int .i64 y.2])/\AD C' w w'/\VR C' w' u (.sl 1 (aj (AV.int .i64) y.1)) :=
 (fz s_65.s Tryz.func160 (ARu h) (l28.hv2 .str .str) gt).mono fun e w' ⟨u,I,h2,C⟩=>by
  obtain⟨a,rfl,j⟩:=l28.tup2_inv C;exact⟨a,I,h2,j⟩
def AOH{l:List Int}{y:Int}(h:Hp l=b4 y)(j:VR C' w va (.sl 1 (aj (AV.int .i64) l)))(gt:GT C' w):
  b7 b2 161 #[va] w (RB w (.int .i64 y)) :=
 (fz s_70.s Tryz.func161 (ARs h) (l28.hv1 j) gt).mono fun e w' ⟨u,I,h2,C⟩=>by cases C;exact⟨I,h2⟩
variable{k:Int}
def yO(h:Av k=b4 y)(gt:GT C' w):
  b7 b2 110 #[.int .i64 k] w (RB w (.string ⟨y.toArray⟩)) :=
 (fz s_19.s Tryz.func110 (ASF h) (l28.hv1 .int) gt).mono fun e w' ⟨u,C,h2,j⟩=>by cases j;exact⟨C,h2⟩
def zF{d:Ad}(h:DD d=b4 y)(j:VR C' w va (BC d))(gt:GT C' w):
  b7 b2 162 #[va] w (RB w (.string ⟨y.toArray⟩)) :=
 (fz s_68.s Tryz.func162 (ARt h) (l28.hv1 j) gt).mono fun e w' ⟨u,I,h2,C⟩=>by cases C;exact⟨I,h2⟩
def qL{l:L8}{y:List L8×Int}(h:DY l k=b4 y)(gt:GT C' w):
  b7 b2 107 #[.string ⟨l.toArray⟩,.int .i64 k] w (RP w 1 (aj AV.str y.1) y.2) :=
 (ff s_69.s Tryz.func107 (AKD h) (l28.hv2 .str .int) gt).mono fun e w' ⟨u,I,h2,C⟩=>by
  obtain⟨a,b,c,rfl,j⟩:=AEe C (flT _);exact⟨a,b,c,I,h2,j⟩
end
end Go.Proofs.YtegmpdmpgmpiaaaGreatDoor.dsk
namespace Go.Proofs.YtegmpdmpgmpiaaaGreatDoor
open Go Go.RowKit Go.Proofs.YtegmpdmpgmpiaaaGreatDoor.l28
noncomputable def VK(d:Ad)(line:L8):Option (Ad×List L8×Int) :=(Ke d).bind fun ok=>if !ok then b4 (⟨[],[],[]⟩,[],1)else(doL ⟨d,[],[],[],bR⟩ line).bind fun q=>if !q.1 then b4 (⟨[],[],[]⟩,[],7)else b4 (q.2.d,q.2.out,0)
noncomputable def Vz(d:Ad)(line:L8):Option (Ad×List L8×Int) :=(Fy d).bind fun ok=>if !ok then b4 (⟨[],[],[]⟩,[],1)else(FF d line).bind fun z=>if !z.2.2 then b4 (⟨[],[],[]⟩,[],7)else b4 (z.1,z.2.1,0)
end Go.Proofs.YtegmpdmpgmpiaaaGreatDoor
namespace Go.Proofs.YtegmpdmpgmpiaaaGreatDoor.dsk
open Go Go.RowKit plot rdc
def Rl(N:Nat)(w:b3)(I C:Value)(d:Ad)(o:List L8):Prop := ∃va vb ba ca bb cb j co,I = .agg #[va,vb,.string ⟨d.Log.toArray⟩]/\Own N 5 w va (aj AN d.Stars) ba ca/\Own N 5 w vb (aj AC d.Estimates) bb cb/\Own N 1 w C (aj AV.str o) j co/\(0<ca->0<cb->ba≠bb)/\(0<co->0<ca->j≠ba)/\(0<co->0<cb->j≠bb)
def PA{S:Nat->Prop}{w:b3}{va vb:Value}{d:Ad}(C:VR S w va (.sl 5 (aj AN d.Stars)))(hb:VR S w vb (.sl 5 (aj AC d.Estimates))):VR S w (.agg #[va,vb,.string ⟨d.Log.toArray⟩]) (BC d):=by
 refine .agg rfl (fun k j=>?_) (fun k j=>?_)
 .match k,j with
  |0,_=>rfl
  |1,_=>rfl
  |2,_=>rfl
 .match k,j with
  |0,_=>exact C
  |1,_=>exact hb
  |2,_=>exact .str
def Rl.still{N:Nat}{w w':b3}{C j:Value}{d:Ad}{o:List L8}(h:Rl N w C j d o)(hs:AD C' w w'):Rl N w' C j d o:=by
 obtain⟨va,vb,ba,ca,bb,cb,U,co,e,R,h2,J,I⟩:=h;exact⟨va,vb,ba,ca,bb,cb,U,co,e,R.same hs fun _=>id,h2.same hs fun _=>id,J.same hs fun _=>id,I⟩
def Rl.mono{N M:Nat}{w:b3}{C j:Value}{d:Ad}{o:List L8}(h:Rl N w C j d o)(hm:M<=N):Rl M w C j d o:=by
 obtain⟨va,vb,ba,ca,bb,cb,U,co,e,R,h2,J,I⟩:=h;exact⟨va,vb,ba,ca,bb,cb,U,co,e,R.mono hm,h2.mono hm,J.mono hm,I⟩
variable{N:Nat}{w:b3}{j C:Value}{d:Ad}{o:List L8}
def Rl.vd(h:Rl N w j C d o):VR C' w j (BC d):=by
 obtain⟨va,vb,ba,ca,bb,cb,U,co,rfl,I,h2,R,J⟩:=h;exact PA (I.sl fun _=>id) (h2.sl fun _=>id)
def Rl.vo(h:Rl N w C j d o):VR C' w j (.sl 1 (aj AV.str o)):=by
 obtain⟨va,vb,ba,ca,bb,cb,U,co,rfl,R,h2,I,J⟩:=h;exact I.sl fun _=>id
def Rl.none(N:Nat)(w:b3):Rl N w (.agg #[.slice bX 0 0,.slice bX 0 0,.string ⟨#[]⟩]) (.slice bX 0 0) ⟨[],[],[]⟩ [] :=
 ⟨_,_,0,0,0,0,0,0,rfl,Own.nil _ _ _ n',Own.nil _ _ _ n',Own.nil _ _ _ n',fun c=>absurd c n',fun c=>absurd c n',fun c=>absurd c n'⟩
section
variable {w:b3}{va vb:Value}
variable{l y:List Star}
def uq(h:Bt l=b4 y)(j:VR C' w va (.sl 5 (aj AN l)))(gt:GT C' w):
  b7 b2 56 #[va] w (RO w 5 (aj AN y)) :=
 (ff s_1.s Tryz.func56 (ASH h) (l28.hv1 j) gt).mono fun e w' ⟨u,J,h2,I⟩=>by
  obtain⟨b,c,C⟩:=qs I (flS _);exact⟨u,b,c,J,h2,C⟩
def ur{l y:List AA}(h:BZ l=b4 y)(j:VR C' w va (.sl 5 (aj AC l)))(gt:GT C' w):
  b7 b2 57 #[va] w (RO w 5 (aj AC y)) :=
 (ff s_2.s Tryz.func57 (ASE h) (l28.hv1 j) gt).mono fun e w' ⟨u,J,h2,I⟩=>by
  obtain⟨b,c,C⟩:=qs I (flE _);exact⟨u,b,c,J,h2,C⟩
def wJ(h:Gg l=b4 y)(j:VR C' w va (.sl 5 (aj AN l)))(gt:GT C' w):
  b7 b2 33 #[va] w (RO w 5 (aj AN y)) :=
 (ff s_207.s Tryz.func33 (ANA h) (l28.hv1 j) gt).mono fun e w' ⟨u,J,h2,I⟩=>by
  obtain⟨b,c,C⟩:=qs I (flS _);exact⟨u,b,c,J,h2,C⟩
variable{y:Bool}
def fN{l y:List AA}(h:Dy l=b4 y)(j:VR C' w va (.sl 5 (aj AC l)))(gt:GT C' w):
  b7 b2 34 #[va] w (RO w 5 (aj AC y)) :=
 (ff s_209.s Tryz.func34 (AMz h) (l28.hv1 j) gt).mono fun e w' ⟨u,J,h2,I⟩=>by
  obtain⟨b,c,C⟩:=qs I (flE _);exact⟨u,b,c,J,h2,C⟩
variable{c:Nat}{k:Int}
def AGA{u:Value}{c:Cm}{k:Bool}(h:VR C' w u (.tup [JH c,.bool k])):∃j C,u = .tuple #[.agg #[j,C,.bool c.fainter_,.bool c.wrong_],.bool k]/\VR C' w j (.sl 1 (aj AV.str c.words_))/\VR C' w C (.sl 1 (aj (AV.int .i64) c.numbers_)):=by
 cases h with
 | @tup cs aa I h=>
  have J:=h 0 p';have U:=h 1 p';simp only[cB,cI]at I
  match cs,I with
  | ⟨[a,b]⟩,_=>
   cases U
   change VR _ _ a (JH c)at J;cases J with
   | @agg ds bs hm R hd=>
    have d0:=hd 0 p';have d1:=hd 1 p';have d2:=hd 2 p';have d3:=hd 3 p';simp only[cB,cI]at hm
    match ds,hm with
    | ⟨[p,q,r,s]⟩,_=>
     cases d2
     cases d3
     exact⟨p,q,rfl,d0,d1⟩
def iO{line:L8}{y:Cm×Bool}(h:CG line=b4 y)(gt:GT C' w):
  b7 b2 58 #[.string ⟨line.toArray⟩] w fun e w'=>∃j C,e = .returned (.tuple #[.agg #[j,C,.bool y.1.fainter_,.bool y.1.wrong_],.bool y.2])/\AD C' w w'/\VR C' w' j (.sl 1 (aj AV.str y.1.words_))/\VR C' w' C (.sl 1 (aj (AV.int .i64) y.1.numbers_)) :=
 (fz OW Tryz.func58 (LW h) (l28.hv1 .str) gt).mono fun e w' ⟨u,R,h2,J⟩=>by
  obtain⟨a,b,rfl,I,hb⟩:=AGA J;exact⟨a,b,R,h2,I,hb⟩
def bi{y:L8}(h:Dt k=b4 y)(gt:GT C' w):
  b7 b2 60 #[.int .i64 k] w (RB w (.string ⟨y.toArray⟩)) :=
 (fz s_3.s Tryz.func60 (AMw h) (l28.hv1 .int) gt).mono fun e w' ⟨u,C,h2,j⟩=>by cases j;exact⟨C,h2⟩
variable{d:Ad}
def js(h:Fy d=b4 y)(j:VR C' w va (BC d))(gt:GT C' w):
  b7 b2 35 #[va] w (RB w (.bool y)) :=
 (fz s_211.s Tryz.func35 (AMx h) (l28.hv1 j) gt).mono fun e w' ⟨u,I,h2,C⟩=>by cases C;exact⟨I,h2⟩
def kL(h:Ke d=b4 y)(j:VR C' w va (.ptr 3 [BC d] 0 0))(gt:GT C' w):
  b7 b2 31 #[va] w (RB w (.bool y)) :=
 (fz s_210.s Tryz.func31 (AMy h) (l28.hv1 j) gt).mono fun e w' ⟨u,I,h2,C⟩=>by cases C;exact⟨I,h2⟩
variable{b:Nat}
def WH{a b:Ad}(h:Im a b=b4 y)(C:VR C' w va (BC a))(j:VR C' w vb (BC b))(gt:GT C' w):
  b7 b2 11 #[va,vb] w (RB w (.bool y)) :=
 (fz s_196.s Tryz.func11 (ANI h) (l28.hv2 C j) gt).mono fun e w' ⟨u,J,h2,I⟩=>by cases I;exact⟨J,h2⟩
def bT{a b:List L8}(h:Fu a b=b4 y)(C:VR C' w va (.sl 1 (aj AV.str a)))(j:VR C' w vb (.sl 1 (aj AV.str b)))(gt:GT C' w):
  b7 b2 12 #[va,vb] w (RB w (.bool y)) :=
 (fz s_197.s Tryz.func12 (ANH h) (l28.hv2 C j) gt).mono fun e w' ⟨u,J,h2,I⟩=>by cases I;exact⟨J,h2⟩
variable{y:Int}
def bB(h:Gr d k=b4 y)(j:VR C' w va (BC d))(gt:GT C' w):
  b7 b2 15 #[va,.int .i64 k] w (RB w (.int .i64 y)) :=
 (fz s_201.s Tryz.func15 (ANG h) (l28.hv2 j .int) gt).mono fun e w' ⟨u,I,h2,C⟩=>by cases C;exact⟨I,h2⟩
def bA{l:List L8}(h:Eh l k=b4 y)(j:VR C' w va (.sl 1 (aj AV.str l)))(gt:GT C' w):
  b7 b2 16 #[va,.int .i64 k] w (RB w (.int .i64 y)) :=
 (fz s_202.s Tryz.func16 (ANF h) (l28.hv2 j .int) gt).mono fun e w' ⟨u,I,h2,C⟩=>by cases C;exact⟨I,h2⟩
def mr(h:Ji d k=b4 y)(j:VR C' w va (BC d))(gt:GT C' w):
  b7 b2 7 #[va,.int .i64 k] w (RB w (.int .i64 y)) :=
 (fz s_191.s Tryz.func7 (ANJ h) (l28.hv2 j .int) gt).mono fun e w' ⟨u,I,h2,C⟩=>by cases C;exact⟨I,h2⟩
variable{N:Nat}
def nl{y:Int×List Star}(h:Dl l k=b4 y)(j:Own N 5 w va (aj AN l) b c)(gt:GT (fun x=>0<c/\x=b) w):
  b7 b2 38 #[va,.int .i64 k] w fun e w'=>e = .returned (.int .i64 y.1)/\AD (fun x=>0<c/\x=b) w w'/\Own N 5 w' va (aj AN y.2) b c :=
 lE s_203.s Tryz.func38 rfl z' APm j gt (ANE h) (flS _)
def qy{l:List AA}{y:Int×List AA}(h:CL l k=b4 y)(j:Own N 5 w va (aj AC l) b c)(gt:GT (fun x=>0<c/\x=b) w):
  b7 b2 39 #[va,.int .i64 k] w fun e w'=>e = .returned (.int .i64 y.1)/\AD (fun x=>0<c/\x=b) w w'/\Own N 5 w' va (aj AC y.2) b c :=
 lE s_204.s Tryz.func39 rfl z' APl j gt (ANC h) (flE _)
def qw{l:List L8}{y:Int×List L8}(h:DX l k=b4 y)(j:Own N 1 w va (aj AV.str l) b c)(gt:GT (fun x=>0<c/\x=b) w):
  b7 b2 14 #[va,.int .i64 k] w fun e w'=>e = .returned (.int .i64 y.1)/\AD (fun x=>0<c/\x=b) w w'/\Own N 1 w' va (aj AV.str y.2) b c :=
 lE s_205.s Tryz.func14 rfl z' APk j gt (ANB h) (flT _)
end
end Go.Proofs.YtegmpdmpgmpiaaaGreatDoor.dsk
