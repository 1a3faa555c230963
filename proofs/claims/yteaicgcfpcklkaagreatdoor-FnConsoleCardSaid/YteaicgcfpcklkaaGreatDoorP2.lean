/- Lemmas and walks, several texts in one. No condition. -/
import Derived.Test.YteaicgcfpcklkaaGreatDoorP1
import Derived.Orders
set_option linter.unusedSimpArgs false
set_option linter.unusedVariables false
noncomputable section
namespace Go.Proofs.YteaicgcfpcklkaaGreatDoor
open Go Go.RowKit
def gY(vm ss:List Nat)(sz:Nat):Op->Bool
 | .move y=>BL vm ss y (.c .nilsl)&&decide (1<=sz)
 | .assign y=>BL vm ss y (.c .nilsl)&&decide (1<=sz)
 | _=>false
def MM(P:Program)(vm ss:List Nat)(op:Op):GR->Bool
 | .mov x=>AJL vm ss x op
 | .newnil sz=>gY vm ss sz op
 | .alloc z=>nq P z op
 | .box x=>AJQ vm ss x op
 | .build z ps=>nn P vm ss z ps op
 | .mkSl sz z n ps=>AAK P vm ss sz z n ps op
 | .load agg sz p=>AAN P vm ss agg sz p op
 | .nilck x=>nk vm ss x op
 | .bin bl u x y=>AJR P vm ss bl u x y op
 | .eqA neg ks x y=>AJP P vm ss neg ks x y op
 | .un u x=>cUn vm ss u x op
 | .conv k x=>AAO P vm ss k x op
 | .b2s x=>AJS P vm ss x op
 | .s2b x=>AJK P vm ss x op
 | .mkFn f fi ca=>AAL vm ss f fi ca op
 | .make sz bytes z l c=>AAM P vm ss sz bytes z l c op&&decide (1<=sz)
 | .slice sz x lo hi=>nj P vm ss sz x lo hi op
 | .fldAddr off p=>aU P vm ss off p op
 | .fld agg off sz x=>AJN P vm ss agg off sz x op
 | .ixAddr sz x i=>gZ P vm ss sz x i op
 | .ixStr x i=>nl P vm ss x i op
 | .ext x i=>AJO vm ss x i op
 | .len st x=>AJM P vm ss st x op
 | .minmax mx xs=>cMM vm ss mx xs op
 | .pick _ _ _=>false
 | .store _ _ _=>false
 | .call _ _=>false
 | .callp _ _=>false
 | .callv _ _=>false
 | .app _ _ _ _ _=>false
 | .pur _=>false
 | .callw _ _=>false
 | .flat _=>false
 | .trunc _ _ _=>false
 | .movz _=>false
 | .safe _ _=>false
section
variable {F Iow:Nat->Prop}{w0:World}{g0:Gh}{o0:CI}{g:Gh}{w w':World}{tmps:Array Value}{ds:List Deferred}{vm ss ss':List Nat}{s:St}{P:Program}{o:Oper}{key:Nat}
theorem wL(h:FR F g w tmps vm ss s){sz:Nat}(hc:gY vm ss sz o.op=true):
  BD (AW F g s.ob) w g s.ob key ⟨true,.own (Bd key),[(Bd key,⟨sz,[]⟩)]⟩ ((execOp ({ tmps:=tmps,defers:=ds }:Act).eval o).run P w):=by
 have main:∀ y,BL vm ss y (.c .nilsl)=true->1<=sz->(execOp ({ tmps:=tmps,defers:=ds }:Act).eval o).run P w = .ok (.value (({ tmps:=tmps,defers:=ds }:Act).eval y)) w ->
   BD (AW F g s.ob) w g s.ob key ⟨true,.own (Bd key),[(Bd key,⟨sz,[]⟩)]⟩ ((execOp ({ tmps:=tmps,defers:=ds }:Act).eval o).run P w):=by
  intro y hy hp hr;have hev:=QI (h.src (ds:=ds) hy);refine⟨_,w,hr,AR.refl _ _,.inr ⟨Bd key,⟨sz,[]⟩,w.heap.size,0,rfl,by simp[Bd],Nat.le_refl _,fun S' hS=>?_,.inl ⟨rfl,.inr ⟨rfl,hev⟩⟩⟩⟩;exact⟨hp,Nat.le_refl _,fun i hi=>by simp at hi,fun hp=>absurd hp (Nat.lt_irrefl _)⟩
 unfold gY at hc;split at hc
 ·rename_i y he;simp only[baT,dtE] at hc;exact main y hc.1 hc.2 (by simp[execOp,he])
 ·rename_i y he;simp only[baT,dtE] at hc;exact main y hc.1 hc.2 (by simp[execOp,he])
 ·cases hc
theorem Qt(h:FR F g w tmps vm ss s){a:GR}(hc:MM P vm ss o.op a=true)(hok:(AU (rd s) s.ob key a).ok=true):
  BD (AW F g s.ob) w g s.ob key (AU (rd s) s.ob key a) ((execOp ({ tmps:=tmps,defers:=ds }:Act).eval o).run P w):=by
 cases a<;>simp only[MM] at hc<;>simp only[AU] at hok ⊢<;>try (cases hc;done)
 case mov=>exact AMO h hc
 case newnil=>exact wL h hc
 case alloc=>exact ABh h hc hok
 case box=>exact AMT h hc hok
 case build=>exact ABg h hc hok
 case mkSl=>exact AGb h hc hok
 case load=>exact AGe h hc hok
 case nilck=>exact ABd h hc hok
 case bin=>exact AMU h hc hok
 case eqA=>exact AMS h hc hok
 case un=>exact s_un h hc hok
 case conv=>exact AGh h hc hok
 case b2s=>exact AMV h hc hok
 case s2b=>exact AMN h hc hok
 case mkFn=>exact AGc h hc hok
 case make=>
  simp only[baT,dtE] at hc;exact AGd h hc.1 hok hc.2
 case slice=>exact ABc h hc hok
 case fldAddr=>exact qJ h hc hok
 case fld agg off sz x=>
  simp only[FQ,baT] at hok;obtain⟨v,w',hr,hw,hcase⟩:=AMQ (key:=key) (ds:=ds) h hc hok.2 hok.1;exact⟨v,w',hr,hw,hcase⟩
 case ixAddr=>exact wM h hc hok
 case ixStr=>exact ABe h hc hok
 case ext=>exact AMR h hc hok
 case len=>exact AMP h hc hok
 case minmax=>exact s_mm h hc hok
def un1:AV->AV
 | .opt true a=>a
 | .opt false _=>.any
 | .int k n=>.int k n
 | .bool b=>.bool b
 | .str l=>.str l
 | .cv v=>.cv v
 | .agg cs=>.agg cs
 | .tup cs=>.tup cs
 | .sl sz els=>.sl sz els
 | .nilsl=>.nilsl
 | .ptr sz els i off=>.ptr sz els i off
 | .fn f a b=>.fn f a b
 | .own k=>.own k
 | .ref k i off=>.ref k i off
 | .fresh sz els=>.fresh sz els
 | .mem sz els i=>.mem sz els i
 | .any=>.any
theorem SR.un1{S:Nat->Prop}{ob:CI}{v:Value}{a:AV}(h:SR S w g ob v a):SR S w g ob v (un1 a):=by
 cases a<;>try exact h
 rename_i b a;cases b
 ·exact SR.any
 ·simp only[SR,if_true] at h;exact h.toSR
def unS(s:St):St:={ s with vs:=s.vs.map un1,st:=s.st.map un1 }
theorem FR.unS(h:FR F g w tmps vm ss s):FR F g w tmps vm ss (unS s) :=
 ⟨h.home,h.inj,h.nF,h.fb,by simpa[Go.Proofs.YteaicgcfpcklkaaGreatDoor.unS] using h.vl,by simpa[Go.Proofs.YteaicgcfpcklkaaGreatDoor.unS] using h.sl,
  fun i hi=>by simp only[Go.Proofs.YteaicgcfpcklkaaGreatDoor.unS];rw[Bg un1 rfl];exact (h.vs i hi).un1,
  fun i hi=>by simp only[Go.Proofs.YteaicgcfpcklkaaGreatDoor.unS];rw[Bg un1 rfl];exact (h.st i hi).un1,h.fit,h.tab⟩
theorem br{a:AV}(h:Ch true a=true):un1 a=Ho a:=by
 cases a<;>try rfl
 rename_i b a;simp only[Ch,Bool.not_true,Bool.false_or] at h;subst h;rfl
theorem Ym{x:Src}(h:Ch true (rd s x)=true):rd (unS s) x=UF s x:=by
 cases x
 case c=>rfl
 all_goals
  simp only[rd,unS,UF] at h ⊢;rw[Bg un1 rfl];exact br h
theorem Fz{r r':Src->AV}{ob:CI}{d:Nat}{a:GR}(hg:Ar a=true)(h:∀ x,x∈BG a->r x=r' x):AU r ob d a=AU r' ob d a:=by
 cases a<;>simp only[Ar] at hg<;>(try (cases hg;done))<;>simp only[BG] at h<;>simp only[AU]
 case slice sz x lo hi=>
  have e1:lo.map r=lo.map r':=by cases lo<;>simp_all
  have e2:hi.map r=hi.map r':=by cases hi<;>simp_all
  rw[e1,e2,h x (by simp)]
 case minmax mx xs=>rw[List.map_congr_left h]
 case build z ps=>
  have e:(ps.map fun p=>(p.1,p.2.1,r p.2.2))=ps.map fun p=>(p.1,p.2.1,r' p.2.2):=List.map_congr_left fun p hp=>by rw[h _ (List.mem_map.2 ⟨p,hp,rfl⟩)]
  rw[e]
 case mkSl sz z n ps=>
  have e:(ps.map fun p=>(p.1,r p.2))=ps.map fun p=>(p.1,r' p.2):=List.map_congr_left fun p hp=>by rw[h _ (List.mem_map.2 ⟨p,hp,rfl⟩)]
  rw[e]
 all_goals simp_all
theorem BD.frz(h:FR F g w tmps vm ss s){m:Mk}{r:Result Next}(hp:BD (AW F g s.ob) w g s.ob key m r):
  ∃ v w',r = .ok (.value v) w'∧AR (fun _=>False) w w'∧SR (AW F g s.ob) w' g s.ob v (Pj m).v:=by
 obtain⟨v,w',hr,hw,hcase⟩:=hp;refine⟨v,w',hr,hw,?_⟩;rcases hcase with⟨h0,hs⟩|⟨k,h',b,cap,e,_,hb,hH,hv⟩
 ·simp only[Pj,h0,zm];exact hs
 ·simp only[Pj,e,zm];have hh:=hH (AW F g s.ob) fun c hc=>.inl hc
  obtain⟨rr,hcell⟩:=hh.cell;have hn:0<cap->¬ AW F g s.ob b:=fun _ c=>by have:=h.setLt c;omega
  obtain⟨q1,q2,q3⟩:=hh.sl hcell (fun _ c=>c) hn;rcases hv with⟨e1,e2⟩|⟨e1,e2,e3⟩
  ·rw[e1];simp only[tk];rcases e2 with e2|⟨e2,e4⟩
   ·rw[e2];exact q1.toSR
   ·rw[e4];exact (q2 e2).toSR
  ·rw[e1,e3];simp only[tk];have:=q3 0 0 e2;rw[Nat.zero_mul,Nat.zero_add] at this;exact this.toSR
theorem SR.lone{S:Nat->Prop}{ob:CI}{v:Value}{a:AV}(h:SR S w g ob v a)(hl:a.lone=true):SR S w g ob v (.opt true a):=by
 simp only[SR,if_true];cases a
 case fn f fi ca=>
  have hat:(AV.fn f fi ca).atoms=true:=by simpa[AV.atoms,AV.cells,AV.atom,AV.lone] using hl
  exact h.atoms hat
 all_goals first|exact h|(simp[AV.lone] at hl)
theorem FX.guardPut(h:FX F Iow w0 g0 o0 g w tmps vm ss s)(hnd:Ns vm){dst:Option Nat}{D:Hv}(hd:Dt vm ss dst D=some ss')(hfit:∀ d,dst=some d->d<tmps.size){m:Mk}{v:Value}
  (hw:AR (fun _=>False) w w') (hv:m.ok=true->m.hs=[]->SR (AW F g s.ob) w' g s.ob v m.v) (hok:(ME s true D m).ok=true) :
  FX F Iow w0 g0 o0 g w' (Gt tmps dst v) vm ss' (ME s true D m):=by
 have hm:m.ok=true∧m.hs=[]∧m.v.lone=true:=by
  unfold ME at hok;cases D<;>simpa[Ay] using (by simpa[Ay] using hok:_∧_).2
 have h1:=(h.toFR.grow hw).put hnd hd hfit (!true||(m.ok&&(m.hs.isEmpty&&m.v.lone))) (v:=v) (a:=.opt true m.v) (fun _=>(hv hm.1 hm.2.1).lone hm.2.2);have hob:(ME s true D m).ob=s.ob:=by cases D<;>rfl
 exact FX.mk' (w:=w) h1 h.same (hw.mono fun _ _ c=>c.elim) (fun k hk=>h.hio k (by rw[hob] at hk;exact hk)) h.fio (by rw[hob];exact h.par)
theorem FX.guardSkip(h:FX F Iow w0 g0 o0 g w tmps vm ss s)(hnd:Ns vm){dst:Option Nat}{D:Hv}(hd:Dt vm ss dst D=some ss')(hfit:∀ d,dst=some d->d<tmps.size){m:Mk}:
  FX F Iow w0 g0 o0 g w (Gt tmps dst undef) vm ss' (ME s false D m):=by
 have h1:=h.toFR.put hnd hd hfit (!false||(m.ok&&(m.hs.isEmpty&&m.v.lone))) (v:=undef) (a:=.opt false m.v) (fun _=>by simp[SR]);have hob:(ME s false D m).ob=s.ob:=by cases D<;>rfl
 exact FX.mk' (w:=w) h1 h.same (AR.refl _ _) (fun k hk=>h.hio k (by rw[hob] at hk;exact hk)) h.fio (by rw[hob];exact h.par)
def eg(vm ss:List Nat)(c a b:Src):Op->Bool
 | .pick x y z=>BL vm ss x c&&(BL vm ss y a&&BL vm ss z b)
 | _=>false
theorem ll(c:Bool)(x y:AV):Yw c x y = .any∨Yw c x y=(bif c then x else y):=by
 unfold Yw;split
 ·right;cases c<;>rfl
 ·rename_i k p j q
  by_cases e:k=j
  ·subst e;right;simp only[beq_self_eq_true,cond_true];cases c<;>rfl
  ·have:(k==j)=false:=by simpa using e
   simp only[this,cond_false];exact .inl trivial
 ·right;cases c<;>rfl
 ·exact .inr rfl
theorem ABu{S:Nat->Prop}{ob:CI}{v u:Value}{x y:AV}(c:Bool)(hx:c=true->SR S w g ob v x)(hy:c=false->SR S w g ob u y):SR S w g ob (if c=true then v else u) (Yw c x y):=by
 rcases ll c x y with e|e
 ·rw[e];exact SR.any
 ·rw[e];cases c
  ·exact hy rfl
  ·exact hx rfl
theorem wK(h:FR F g w tmps vm ss s){c a b:Src}(hc:eg vm ss c a b o.op=true){ac:AV}(hcv:SR (AW F g s.ob) w g s.ob (({ tmps:=tmps,defers:=ds }:Act).eval (match o.op with | .pick x _ _=>x|_=>.const undef)) ac)(hok:(LL true (rd s a) (rd s b) ac).ok=true):
  BD (AW F g s.ob) w g s.ob key (LL true (rd s a) (rd s b) ac) ((execOp ({ tmps:=tmps,defers:=ds }:Act).eval o).run P w):=by
 unfold eg at hc;split at hc
 ·rename_i x y z he;simp only[baT] at hc;obtain⟨h1,h2,h3⟩:=hc;rw[he] at hcv;have hva:=h.src (ds:=ds) h2;have hvb:=h.src (ds:=ds) h3;cases ac<;>simp only[LL,bad] at hok<;>try (cases hok;done)
  rename_i cb;have hce:=Lj hcv;simp only[LL,ET,Bool.true_and,baT] at hok ⊢
  have un:∀ {v:Value} {q:AV},SR (AW F g s.ob) w g s.ob v q->Ch true q=true->SR (AW F g s.ob) w g s.ob v (Ho q):=fun hs ho=>by
   rw[← br ho];exact hs.un1
  refine .val (v:=if cb=true then ({ tmps:=tmps,defers:=ds }:Act).eval y else ({ tmps:=tmps,defers:=ds }:Act).eval z) (by simp only[] at hce;simp[execOp,he,hce,asBool]) rfl (ABu cb (fun e=>?_) (fun e=>?_))
  ·subst e;exact un hva hok.1
  ·subst e;exact un hvb hok.2
 ·cases hc
end
open Go Go.RowKit
def LZ(args:List AV):St:={ vs:=Ka 0 args,st:=[],ob:=BI 0 args,ok:=true }
def vW(S:Nat->Prop)(w:World)(g:Gh)(ob:CI)(k:Nat)(v:Value):AV->Prop
 | .fresh sz els=>AK k ob=some ⟨sz,els⟩∧(v = .slice (some ⟨g.β k,0,none⟩) els.length (g.cap k)∨(g.cap k=0∧v = .slice none 0 0))
 | .mem sz els _=>AK k ob=some ⟨sz,els⟩∧(els.length=1∧v = .pointer (some ⟨g.β k,0,none⟩))
 | a=>VR S w v a
def RV(S:Nat->Prop)(w:World)(g:Gh)(ob:CI)(κ:Nat->Nat)(v:Value):AV->Prop
 | .tup as=>∃ vs,v = .tuple vs∧vs.size=as.length∧∀ j,j<as.length->vW S w g ob (κ (j+1)) (vs.getD j undef) (as.getD j .any)
 | a=>vW S w g ob (κ 0) v a
def HJ:AV->Bool
 | .fresh _ _=>true
 | .mem _ _ _=>true
 | _=>false
def Ht(r:AV)(i:Nat):Prop :=
 match r with
 | .tup as=>∃ j,i=j+1∧j<as.length∧HJ (as.getD j .any)=true
 | a=>i=0∧HJ a=true
def Ej:AV->Bool
 | .int _ _=>true
 | .bool _=>true
 | .str _=>true
 | _=>false
def pe(a:AV):Bool:=a.cells.all Ej
def EN:AV->Bool
 | .fresh _ els=>els.all pe
 | .mem _ els _=>els.all pe
 | a=>Ej a
def Do:AV->Bool
 | .tup as=>as.all EN
 | a=>EN a
structure bD(F:Nat->Prop)(g0:Gh)(args:List AV)(modes:List Md)(w:World)(v:Value)(w':World)(r:AV)(outs:List AV)(g:Gh)(ob:CI)(κ:Nat->Nat):Prop where
 same:AR (fun b=>∃ k,KW g0 (BI 0 args) k∧g0.β k=b) w w'
 home:∀ k h,AK k ob=some h->GL (AW F g ob) w' (g.β k) (g.cap k) h.sz h.els
 inj:∀ k k',KW g ob k->KW g ob k'->g.β k=g.β k'->k=k'
 nF:∀ k,KW g ob k->¬ F (g.β k)
 hio:∀ k,KW g ob k->w.heap.size<=g.β k∨∃ k',KW g0 (BI 0 args) k'∧g0.β k'=g.β k
 val:RV (AW F g ob) w' g ob κ v r
 κinj:∀ i j,Ht r i->Ht r j->κ i=κ j->i=j
 κio:∀ i j,Ht r i->modes[j]? = some .io->κ i≠AH j
 out:∀ j,modes[j]? = some .io->∃ sz e0 els,((args.getD j .any = .fresh sz e0∧outs.getD j .any = .fresh sz els)∨(∃ i i',args.getD j .any = .mem sz e0 i∧outs.getD j .any = .mem sz els i')) ∧
  els.length=e0.length∧AK (AH j) ob=some ⟨sz,els⟩∧g.β (AH j)=g0.β (AH j)∧g.cap (AH j)=g0.cap (AH j)
def CZ(P:Program)(f:FuncId)(args:Array Value)(w:World)(R:Ending->World->Prop):Prop :=
 match (callFunc f args).run P w with
 | .ok (.value v) w'=>R (.returned v) w'
 | .ok (.enter f' args') w'=>Calls P f' args' w' R
 | _=>False
def ABr(ms:List Md):Bool:=ms.all fun m=>!(m == .io)
def AQ(P:Program)(f:FuncId)(C:Ak):Prop :=
 (C.flat=true->ABr C.modes=true) ∧
 ∀ (F:Nat->Prop) (g0:Gh) (w:World) (args:List AV) (vargs:Array Value),EO C.modes args=true->vargs.size=args.length ->
  FR F g0 w vargs (List.range args.length) [] (LZ args)->(C.F args).ok=true ->
  (C.flat=true->Do (C.F args).r=true) ∧
  CZ P f vargs w fun e w'=>∃ v g ob κ,e = .returned v∧bD F g0 args C.modes w v w' (C.F args).r (C.F args).outs g ob κ
theorem jr{S S':Nat->Prop}{w w':World}{v:Value}{a:AV}(hf:Ej a=true)(h:VR S w v a):VR S' w' v a:=by
 cases a<;>simp[Ej] at hf<;>cases h<;>constructor
def Gk:AV->Option Hm
 | .fresh sz els=>some ⟨sz,els⟩
 | .mem sz els _=>some ⟨sz,els⟩
 | _=>none
theorem RI{i j:Nat}(h:AH i=AH j):i=j:=by unfold AH at h;omega
theorem QX(k:Nat):∀ (args:List AV) (i:Nat),AK k (BI i args)=if k%32=31∧i<=k/32 then Gk (args.getD (k/32-i) .any) else none
 | [],i=>by simp[BI,AK,Gk]
 | a::r,i=>by
  have ih:=QX k r (i+1)
  have step:∀ h:Hm,AK k ((AH i,h)::BI (i+1) r)=if k%32=31∧i<=k/32 then (if k/32=i then some h else Gk ((a::r).getD (k/32-i) .any)) else none:=by
   intro h;simp only[AK,AO,beq_iff_eq,ih]
   by_cases e:AH i=k
   ·subst e;have h1:(32*i+31)%32=31:=by omega
    have h2:(32*i+31)/32=i:=by omega
    simp[AH,h1,h2]
   ·rw[if_neg e]
    by_cases e1:k%32=31
    ·have hne:k/32≠i:=fun e2=>e (by unfold AH;omega)
     by_cases e3:i<=k/32
     ·rw[if_pos ⟨e1,by omega⟩,if_pos ⟨e1,e3⟩,if_neg hne,show k/32-i=(k/32-(i+1))+1 by omega,List.getD_cons_succ]
     ·rw[if_neg (by omega),if_neg (by omega)]
    ·rw[if_neg (by omega),if_neg (by omega)]
  have skip:Gk a=none->AK k (BI (i+1) r)=if k%32=31∧i<=k/32 then Gk ((a::r).getD (k/32-i) .any) else none:=by
   intro h0;rw[ih]
   by_cases e1:k%32=31
   ·by_cases e3:i<=k/32
    ·by_cases e4:k/32=i
     ·rw[if_neg (by omega),if_pos ⟨e1,e3⟩,e4,Nat.sub_self,List.getD_cons_zero,h0]
     ·rw[if_pos ⟨e1,by omega⟩,if_pos ⟨e1,e3⟩,show k/32-i=(k/32-(i+1))+1 by omega,List.getD_cons_succ]
    ·rw[if_neg (by omega),if_neg (by omega)]
   ·rw[if_neg (by omega),if_neg (by omega)]
  have fin:∀ sz els,Gk a=some ⟨sz,els⟩->AK k ((AH i,⟨sz,els⟩)::BI (i+1) r)=if k%32=31∧i<=k/32 then Gk ((a::r).getD (k/32-i) .any) else none:=by
   intro sz els h0;rw[step]
   by_cases e:k%32=31∧i<=k/32
   ·rw[if_pos e,if_pos e]
    by_cases e4:k/32=i
    ·rw[if_pos e4,e4,Nat.sub_self,List.getD_cons_zero,h0]
    ·rw[if_neg e4]
   ·rw[if_neg e,if_neg e]
  cases a
  case fresh sz els=>exact fin sz els rfl
  case mem sz els _=>exact fin sz els rfl
  all_goals exact skip rfl
theorem FV{args:List AV}{j:Nat}:AK (AH j) (BI 0 args)=Gk (args.getD j .any):=by
 rw[QX,if_pos (by unfold AH;omega)]
 congr 2
 unfold AH;omega
theorem LV{args:List AV}{k:Nat}{h:Hm}(hg:AK k (BI 0 args)=some h):∃ j,k=AH j∧Gk (args.getD j .any)=some h:=by
 rw[QX] at hg;split at hg
 ·rename_i e;exact⟨k/32,by unfold AH;omega,by simpa using hg⟩
 ·cases hg
def Zs(j:Nat):AV->AV
 | .fresh _ _=>.own (AH j)
 | .mem _ _ i=>.ref (AH j) i 0
 | a=>a
theorem Jv:∀ (args:List AV) (i j:Nat),j<args.length->(Ka i args).getD j .any=Zs (i+j) (args.getD j .any)
 | [],_,_,h=>by simp at h
 | a::r,i,0,_=>by cases a<;>rfl
 | a::r,i,j+1,h=>by
  have ih:=Jv r (i+1) j (by simpa using h);rw[show i+(j+1)=i+1+j by omega,List.getD_cons_succ,← ih];cases a<;>rfl
theorem It:∀ (args:List AV) (i:Nat),(Ka i args).length=args.length
 | [],_=>rfl
 | a::r,i=>by
  have ih:=It r (i+1);cases a<;>simp[Ka,ih]
open Go Go.RowKit
def kk(as:List AV)(j:Nat):Nat:=(as.getD j .any).key1.headD 0
def Ji(g:Gh)(as:List AV):Gh:=⟨fun k=>g.β (kk as (k/32)),fun k=>g.cap (kk as (k/32))⟩
theorem RJ(j:Nat):AH j/32=j:=by unfold AH;omega
theorem Fr(ob:CI):∀ (ms:List Md) (as:List AV) (j:Nat),ms.length=as.length->j<as.length->(BU ob ms as).getD j .any=De ob (ms.getD j .bor) (as.getD j .any)
 | [],[],_,_,h=>by simp at h
 | [],_::_,_,h,_=>by simp at h
 | _::_,[],_,h,_=>by simp at h
 | m::ms,a::as,0,_,_=>by simp[BU]
 | m::ms,a::as,j+1,h,hj=>by
  simp only[BU,List.getD_cons_succ];exact Fr ob ms as j (by simpa using h) (by simpa using hj)
theorem Jg(ob:CI):∀ (ms:List Md) (as:List AV),ms.length=as.length->(BU ob ms as).length=as.length
 | [],[],_=>rfl
 | [],_::_,h=>by simp at h
 | _::_,[],h=>by simp at h
 | m::ms,a::as,h=>by simp[BU,Jg ob ms as (by simpa using h)]
theorem NL:∀ (ms:List Md) (as:List AV),EO ms as=true->ms.length=as.length∧∀ j,j<as.length ->
  (ms.getD j .bor = .bor->Fk (as.getD j .any)=false)∧(ms.getD j .bor = .io->Fk (as.getD j .any)=true)∧(ms.getD j .bor = .mov->Fk (as.getD j .any)=true∨ZH (as.getD j .any)=true)
 | [],[],_=>⟨rfl,fun j hj=>by simp at hj⟩
 | [],_::_,h=>by simp[EO] at h
 | m::_,[],h=>by cases m<;>simp[EO] at h
 | m::ms,a::as,h=>by
  have key:EO ms as=true∧((m = .bor->Fk a=false)∧(m = .io->Fk a=true)∧(m = .mov->Fk a=true∨ZH a=true)):=by
   cases m<;>simp only[EO,baT,Bool.or_eq_true,Bool.not_eq_true'] at h<;>refine⟨h.2,?_⟩<;>simp[h.1]
  obtain⟨h1,h2⟩:=key;obtain⟨i1,i2⟩:=NL ms as h1;refine⟨by simp[i1],fun j hj=>?_⟩;cases j with
  | zero=>simpa using h2
  | succ j=>simpa using i2 j (by simpa using hj)
theorem Ju:∀ (ms:List Md) (as:List AV) (j:Nat),ms.length=as.length->j<as.length->ms.getD j .bor ≠ .bor->∀ k,k∈(as.getD j .any).key1->k∈BW ms as
 | [],[],_,_,h,_,_,_=>by simp at h
 | [],_::_,_,h,_,_,_,_=>by simp at h
 | _::_,[],_,h,_,_,_,_=>by simp at h
 | m::ms,a::as,0,_,_,hm,k,hk=>by
  cases m<;>simp at hm<;>simp only[BW,List.mem_append]<;>exact .inl (by simpa using hk)
 | m::ms,a::as,j+1,h,hj,hm,k,hk=>by
  have:=Ju ms as j (by simpa using h) (by simpa using hj) (by simpa using hm) k (by simpa using hk);cases m<;>simp only[BW,List.mem_append]<;>first|exact this|exact .inr this
theorem Vi:∀ (ms:List Md) (as:List AV) (j:Nat),ms.length=as.length->j<as.length->ms.getD j .bor = .bor->∀ k,k∈(as.getD j .any).keys->k∈EA ms as
 | [],[],_,_,h,_,_,_=>by simp at h
 | [],_::_,_,h,_,_,_,_=>by simp at h
 | _::_,[],_,h,_,_,_,_=>by simp at h
 | m::ms,a::as,0,_,_,hm,k,hk=>by
  cases m<;>simp at hm
  simp only[EA,List.mem_append];exact .inl (by simpa using hk)
 | m::ms,a::as,j+1,h,hj,hm,k,hk=>by
  have:=Vi ms as j (by simpa using h) (by simpa using hj) (by simpa using hm) k (by simpa using hk);cases m<;>simp only[EA,List.mem_append]<;>first|exact this|exact .inr this
theorem bV{k:Nat}{r:List Nat}(h:Dg (k::r)=true):k ∉ r∧Dg r=true:=by
 simp only[Dg,baT,Bool.not_eq_true',List.any_eq_false,beq_iff_eq] at h;exact⟨fun hk=>h.1 k hk rfl,h.2⟩
theorem Gz{l r:List Nat}(h:Dg (l++r)=true):Dg r=true∧∀ k,k∈l->k ∉ r:=by
 induction l with
 | nil=>exact⟨h,fun k hk=>by simp at hk⟩
 | cons a l ih=>
  obtain⟨h1,h2⟩:=bV h;obtain⟨i1,i2⟩:=ih h2;refine⟨i1,fun k hk=>?_⟩;rcases List.mem_cons.1 hk with e|hk
  ·rw[e];exact fun c=>h1 (List.mem_append.2 (.inr c))
  ·exact i2 k hk
theorem Uj:∀ (ms:List Md) (as:List AV) (i j:Nat),ms.length=as.length->Dg (BW ms as)=true->i<j->j<as.length->ms.getD i .bor ≠ .bor->ms.getD j .bor ≠ .bor->∀ k,k∈(as.getD i .any).key1->k∈(as.getD j .any).key1->False
 | [],[],_,_,_,_,_,h,_,_,_,_,_=>by simp at h
 | [],_::_,_,_,h,_,_,_,_,_,_,_,_=>by simp at h
 | _::_,[],_,_,h,_,_,_,_,_,_,_,_=>by simp at h
 | m::ms,a::as,0,j+1,hl,hd,_,hj,hi,hjm,k,h1,h2=>by
  have h3:=Ju ms as j (by simpa using hl) (by simpa using hj) (by simpa using hjm) k (by simpa using h2);have hd':Dg (a.key1++BW ms as)=true:=by cases m<;>simp at hi<;>simpa[BW] using hd
  exact (Gz hd').2 k (by simpa using h1) h3
 | m::ms,a::as,i+1,j+1,hl,hd,hij,hj,hi,hjm,k,h1,h2=>by
  have hd':Dg (BW ms as)=true:=by
   cases m
   ·simpa[BW] using hd
   ·exact (Gz (by simpa[BW] using hd)).1
   ·exact (Gz (by simpa[BW] using hd)).1
  exact Uj ms as i j (by simpa using hl) hd' (by omega) (by simpa using hj) (by simpa using hi) (by simpa using hjm) k (by simpa using h1) (by simpa using h2)
 | _::_,_::_,0,0,_,_,h,_,_,_,_,_,_=>by omega
 | _::_,_::_,_+1,0,_,_,h,_,_,_,_,_,_=>by omega
theorem ag{ks bs:List Nat}(h:apart ks bs=true){k:Nat}(h1:k∈ks)(h2:k∈bs):False:=by
 simp only[apart,List.all_eq_true,Bool.not_eq_true',List.any_eq_false,beq_iff_eq] at h;exact h k h1 k h2 rfl
theorem XP{ob:CI}{m:Md}{a:AV}{hm:Hm}(h:Gk (De ob m a)=some hm)(hm0:m = .bor->Fk (De ob m a)=false):
  m ≠ .bor∧∃ k,(a = .own k∧De ob m a = .fresh hm.sz hm.els∨∃ i,a = .ref k i 0∧De ob m a = .mem hm.sz hm.els i)∧AK k ob=some hm∧k∈a.key1:=by
 have hnb:m ≠ .bor:=by
  intro e;have h0:=hm0 e;revert h h0;generalize De ob m a=x;intro h h0;cases x<;>simp[Gk,Fk] at h h0
 refine⟨hnb,?_⟩;have hio:De ob m a=JC ob a:=by cases m<;>first|exact absurd rfl hnb|rfl
 rw[hio] at h ⊢;cases a
 case own k=>
  simp only[JC] at h ⊢;cases ho:AK k ob with
  | none=>rw[ho] at h;simp[Qe,Gk] at h
  | some h'=>
   rw[ho] at h;simp only[Qe,Gk,Option.some.injEq] at h;exact⟨k,.inl ⟨rfl,by simp[Qe,← h]⟩,by rw[ho,← h],by simp[AV.key1]⟩
 case ref k i off=>
  rcases Nat.eq_zero_or_pos off with hof|hof
  ·subst hof;simp only[JC] at h ⊢;cases ho:AK k ob with
   | none=>rw[ho] at h;simp[lm,Gk] at h
   | some h'=>
    rw[ho] at h;simp only[lm,Gk,Option.some.injEq] at h;subst h;exact⟨k,.inr ⟨i,rfl,by simp[lm]⟩,ho,by simp[AV.key1]⟩
  ·obtain⟨n,rfl⟩:∃ n,off=n+1:=⟨off-1,by omega⟩;simp[JC,Gk] at h
 all_goals simp[JC,Gk] at h
section
variable {F Iow:Nat->Prop}{w0:World}{g0:Gh}{o0:CI}{g:Gh}{w w':World}{tmps:Array Value}{ds:List Deferred}{vm ss ss':List Nat}{s:St}{P:Program}{o:Oper}{key:Nat}
theorem FR.dv1(h:FR F g w tmps vm ss s){S':Nat->Prop}(hS:∀ b,S' b->AW F g s.ob b){v:Value}{a:AV}(hk:∀ k,k∈a.key1->∀ b,S' b->0<g.cap k->Ih s.ob k->b≠g.β k)(ha:MO (AW F g s.ob) w g s.ob v a):VR S' w v (a.dv1 s.ob):=by
 cases a
 case own k=>
  obtain⟨hm,ho,e⟩:=ha;simp only[AV.dv1,ho,wG];rcases e with e|⟨hz,e⟩
  ·rw[e];exact (h.sl_of ho fun b hb=>⟨hS b hb,fun hp=>hk k (by simp[AV.key1]) b hb hp ⟨hm,ho⟩⟩).1
  ·rw[e,h.nil_els ho hz];exact .sl 0 0 (fun _ _=>undef) rfl (Nat.le_refl _) (h.home k hm ho).pos (fun hp=>by simp at hp) (fun i hi=>by simp at hi) (fun i j hi _=>by simp at hi) (fun i j hi _=>by simp at hi)
 case ref k i off=>
  obtain⟨hm,ho,hi,e⟩:=ha;simp only[AV.dv1,ho,jA];rw[e];exact (h.sl_of ho fun b hb=>⟨hS b hb,fun hp=>hk k (by simp[AV.key1]) b hb hp ⟨hm,ho⟩⟩).2 i off hi |>.narrow
 case ptr sz els i off=>exact (VR.mono (AR.refl _ _) (fun b _ c=>hS b c) ha:VR S' w v (.ptr sz els i off)).narrow
 case fresh=>exact .any
 case mem=>exact .any
 case opt=>exact .any
 case any=>exact .any
 all_goals exact VR.mono (AR.refl _ _) (fun b _ c=>hS b c) ha
theorem FR.dv(h:FR F g w tmps vm ss s){S':Nat->Prop}(hS:∀ b,S' b->AW F g s.ob b){v:Value}{a:AV}(hk:∀ k,k∈a.keys->∀ b,S' b->0<g.cap k->Ih s.ob k->b≠g.β k)(ha:SR (AW F g s.ob) w g s.ob v a):VR S' w v (a.dv s.ob):=by
 have hl:∀ (l:List AV) j,(l.map (AV.dv1 s.ob)).getD j .any=(l.getD j .any).dv1 s.ob:=fun l j=>Bg _ rfl l j
 cases a
 case fn f a1 a2=>
  obtain⟨v1,v2,rfl,n1,n2,h1,h2⟩:=ha;refine .fn (by simpa using n1) (by simpa using n2) (fun j hj=>?_) (fun j hj=>?_)
  ·rw[hl];exact h.dv1 hS (fun k hkk=>hk k (by simp only[AV.keys,List.flatMap_append,List.mem_append];exact .inl (Cc (by simpa using hj) hkk))) (h1 j (by simpa using hj))
  ·rw[hl];exact h.dv1 hS (fun k hkk=>hk k (by simp only[AV.keys,List.flatMap_append,List.mem_append];exact .inr (Cc (by simpa using hj) hkk))) (h2 j (by simpa using hj))
 case own k=>exact h.dv1 (a:=.own k) hS (fun k' hkk=>hk k' hkk) ha
 case ref k i off=>exact h.dv1 (a:=.ref k i off) hS (fun k' hkk=>hk k' hkk) ha
 case ptr sz els i off=>exact h.dv1 (a:=.ptr sz els i off) hS (fun k' hkk=>hk k' hkk) ha
 case tup=>exact .any
 case fresh=>exact .any
 case mem=>exact .any
 case opt=>exact .any
 case any=>exact .any
 all_goals exact VR.mono (AR.refl _ _) (fun b _ c=>hS b c) ha
theorem FR.args(h:FR F g w tmps vm ss s){vals:Array Value}{as:List AV}{ms:List Md}(hsz:vals.size=as.length)(hv:∀ j,j<as.length->SR (AW F g s.ob) w g s.ob (vals.getD j undef) (as.getD j .any))
  (hd:Dg (BW ms as)=true) (hap:apart (BW ms as) (EA ms as)=true) (hlen:ms.length=as.length) (hsh:EO ms (BU s.ob ms as)=true)
  {Fc:Nat->Prop} (hFc:∀ b,Fc b->AW F g s.ob b∧∀ k,(k∈BW ms as∨k∈EA ms as)->KW g s.ob k->g.β k≠b) :
  FR Fc (Ji g as) w vals (List.range as.length) [] (LZ (BU s.ob ms as)):=by
 obtain⟨_,hsg⟩:=NL _ _ hsh;have hhl:=Jg s.ob ms as hlen;rw[hhl] at hsg
 have blk:∀ k hm,AK k (BI 0 (BU s.ob ms as))=some hm->∃ j k0,k=AH j∧j<as.length∧ms.getD j .bor ≠ .bor∧AK k0 s.ob=some hm∧k0∈(as.getD j .any).key1∧kk as j=k0∧k0∈BW ms as:=by
  intro k hm hg;obtain⟨j,rfl,hf⟩:=LV hg
  have hj:j<as.length:=by
   rcases Nat.lt_or_ge j as.length with h' | h'
   ·exact h'
   ·rw[gdE,List.getElem?_eq_none (by rw[hhl];exact h')] at hf;simp[Gk] at hf
  rw[Fr _ _ _ _ hlen hj] at hf;have hs:=hsg j hj;rw[Fr _ _ _ _ hlen hj] at hs;obtain⟨h1,k0,h2,h3,h4⟩:=XP hf (fun e=>hs.1 e);refine⟨j,k0,rfl,hj,h1,h3,h4,?_,Ju ms as j hlen hj h1 k0 h4⟩;unfold kk;rcases h2 with⟨e,_⟩|⟨_,e,_⟩<;>rw[e]<;>rfl
 have gk:∀ j,(Ji g as).β (AH j)=g.β (kk as j)∧(Ji g as).cap (AH j)=g.cap (kk as j):=fun j=>by
  simp[Ji,RJ]
 have sub:∀ b,AW Fc (Ji g as) (BI 0 (BU s.ob ms as)) b->AW F g s.ob b:=by
  intro b hb;rcases hb with hb|⟨k,⟨⟨hm,hg⟩,hp⟩,e⟩
  ·exact (hFc b hb).1
  ·obtain⟨j,k0,rfl,hj,_,ho,_,ek,_⟩:=blk k hm hg;rw[(gk j).1,ek] at e;rw[(gk j).2,ek] at hp;exact .inr ⟨k0,⟨⟨hm,ho⟩,hp⟩,e⟩
 have apb:∀ k,k∈EA ms as->∀ b,AW Fc (Ji g as) (BI 0 (BU s.ob ms as)) b->0<g.cap k->Ih s.ob k->b≠g.β k:=by
  intro k hk b hb hp hin e;rcases hb with hb|⟨k',⟨⟨hm,hg⟩,hp'⟩,e'⟩
  ·exact (hFc b hb).2 k (.inr hk) ⟨hin,hp⟩ e.symm
  ·obtain⟨j,k0,rfl,hj,_,ho,_,ek,hio⟩:=blk k' hm hg;rw[(gk j).1,ek] at e';rw[(gk j).2,ek] at hp';have:=h.inj k0 k ⟨⟨hm,ho⟩,hp'⟩ ⟨hin,hp⟩ (by rw[e',e]);subst this;exact ag hap hio hk
 refine⟨fun k hm hg=>?_,fun k k' hk hk' e=>?_,fun k hk=>?_,fun b hb=>h.setLt (hFc b hb).1,?_,rfl,fun j hj=>?_,fun j hj=>by simp at hj,fun t ht=>?_,h.tab.mono (AR.refl _ _) fun b _ c=>sub b c⟩
 ·obtain⟨j,k0,rfl,hj,_,ho,_,ek,_⟩:=blk k hm hg;rw[(gk j).1,(gk j).2,ek];exact (h.home k0 hm ho).mono (AR.refl _ _) (fun _=>rfl) fun b _ c=>sub b c
 ·obtain⟨⟨hm,hg⟩,hp⟩:=hk;obtain⟨⟨hm',hg'⟩,hp'⟩:=hk';obtain⟨j,k0,rfl,hj,hjm,ho,hkey,ek,_⟩:=blk k hm hg;obtain⟨j',k0',rfl,hj',hjm',ho',hkey',ek',_⟩:=blk k' hm' hg';rw[(gk j).1,(gk j').1,ek,ek'] at e;rw[(gk j).2,ek] at hp;rw[(gk j').2,ek'] at hp';have:=h.inj k0 k0' ⟨⟨hm,ho⟩,hp⟩ ⟨⟨hm',ho'⟩,hp'⟩ e;subst this
  congr 1
  rcases Nat.lt_trichotomy j j' with hlt|heq|hlt
  ·exact (Uj ms as j j' hlen hd hlt hj' hjm hjm' k0 hkey hkey').elim
  ·exact heq
  ·exact (Uj ms as j' j hlen hd hlt hj hjm' hjm k0 hkey' hkey).elim
 ·obtain⟨⟨hm,hg⟩,hp⟩:=hk;obtain⟨j,k0,rfl,hj,hjm,ho,hkey,ek,hio⟩:=blk k hm hg;rw[(gk j).1,ek];rw[(gk j).2,ek] at hp;exact fun hf=>(hFc _ hf).2 k0 (.inl hio) ⟨⟨hm,ho⟩,hp⟩ rfl
 ·simp[LZ,It,hhl]
 ·have hj':j<as.length:=by simpa using hj
  have e1:(List.range as.length).getD j 0=j:=by rw[gdE,List.getElem?_range hj'];rfl
  rw[e1];simp only[LZ];rw[Jv _ 0 j (by rw[hhl];exact hj'),Nat.zero_add];have hs:=hsg j hj';have hvj:=hv j hj';have hget:=Fr s.ob ms as j hlen hj';rw[hget] at hs ⊢
  by_cases hb:ms.getD j .bor = .bor
  ·have hnf:=hs.1 hb
   have e2:Zs j (De s.ob (ms.getD j .bor) (as.getD j .any))=De s.ob (ms.getD j .bor) (as.getD j .any):=by
    revert hnf;generalize De s.ob (ms.getD j .bor) (as.getD j .any)=x;intro hnf;cases x<;>first|rfl|(simp[Fk] at hnf)
   rw[e2,hb];refine VR.toSR (h.dv sub (fun k hk b hbb hp hin=>apb k (Vi ms as j hlen hj' hb k hk) b hbb hp hin) hvj)
  ·cases hf:Gk (De s.ob (ms.getD j .bor) (as.getD j .any)) with
   | some hm=>
    obtain⟨_,k0,h2,h3,h4⟩:=XP hf (fun e=>absurd e hb);have hpk:AK (AH j) (BI 0 (BU s.ob ms as))=some hm:=by rw[FV,hget,hf]
    rcases h2 with⟨e,e2⟩|⟨i,e,e2⟩
    ·rw[e2];rw[e] at hvj;obtain⟨hm',ho,hval⟩:=hvj;rw[h3] at ho;cases ho;have ek:kk as j=k0:=by unfold kk;rw[e];rfl
     exact⟨hm,hpk,by rw[(gk j).1,(gk j).2,ek];exact hval⟩
    ·rw[e2];rw[e] at hvj;obtain⟨hm',ho,hi,hval⟩:=hvj;rw[h3] at ho;cases ho;have ek:kk as j=k0:=by unfold kk;rw[e];rfl
     exact⟨hm,hpk,hi,by rw[(gk j).1,ek];exact hval⟩
   | none=>
    have hnil:ZH (De s.ob (ms.getD j .bor) (as.getD j .any))=true:=by
     cases hm0:ms.getD j .bor with
     | bor=>exact absurd hm0 hb
     | io=>
      have:=hs.2.1 hm0;revert this hf;rw[hm0];generalize De s.ob .io (as.getD j .any)=x;intro hf this;cases x<;>simp[Fk,Gk] at this hf
     | mov=>
      rcases hs.2.2 hm0 with this|this
      ·revert this hf;rw[hm0];generalize De s.ob .mov (as.getD j .any)=x;intro hf this;cases x<;>simp[Fk,Gk] at this hf
      ·rw[hm0] at this;exact this
    have hx:De s.ob (ms.getD j .bor) (as.getD j .any) = .nilsl:=by
     revert hnil;generalize De s.ob (ms.getD j .bor) (as.getD j .any)=x;intro hnil;cases x<;>simp[ZH] at hnil
     rfl
    have ha:as.getD j .any = .nilsl:=by
     have hio:De s.ob (ms.getD j .bor) (as.getD j .any)=JC s.ob (as.getD j .any):=by
      cases hm0:ms.getD j .bor<;>first|exact absurd hm0 hb|rfl
     rw[hio] at hx;revert hx;generalize as.getD j .any=x;intro hx;cases x
     case own k=>simp only[JC] at hx;cases ho:AK k s.ob<;>rw[ho] at hx<;>simp[Qe] at hx
     case ref k i off=>
      rcases Nat.eq_zero_or_pos off with hof|hof
      ·subst hof;simp only[JC] at hx;revert hx;generalize AK k s.ob=y;intro hx;cases y<;>simp[lm] at hx
      ·obtain⟨n,rfl⟩:∃ n,off=n+1:=⟨off-1,by omega⟩;simp[JC] at hx
     case nilsl=>rfl
     all_goals simp[JC] at hx
    rw[hx];rw[ha] at hvj;have:=QI hvj;rw[this];exact VR.toSR .nilsl
 ·rcases ht with ht|ht
  ·rw[hsz];simpa using ht
  ·simp at ht
end
theorem CZ.mono{P:Program}{f:FuncId}{args:Array Value}{w:World}{R R':Ending->World->Prop}(h:CZ P f args w R)(hr:∀ e w',R e w'->R' e w'):CZ P f args w R':=by
 unfold CZ at h ⊢;split at h
 ·exact hr _ _ h
 ·exact Calls.mono h hr
 ·exact h.elim
structure KV(S:Nat->Prop)(pend:Nat->Prop)(g:Gh)(w:World)(tmps:Array Value)(vm ss:List Nat)(s:St):Prop where
 home:∀ k h,¬ pend k->AK k s.ob=some h->GL S w (g.β k) (g.cap k) h.sz h.els
 vl:s.vs.length=vm.length
 sl:s.st.length=ss.length
 vs:∀ i,i<vm.length->SR S w g s.ob (tmps.getD (vm.getD i 0) undef) (s.vs.getD i .any)
 st:∀ i,i<ss.length->SR S w g s.ob (tmps.getD (ss.getD i 0) undef) (s.st.getD i .any)
 fit:∀ t,t∈vm∨t∈ss->t<tmps.size
def GN:List Md->List AV->List Nat
 | .mov::ms,a::as=>a.key1++GN ms as
 | .bor::ms,_::as=>GN ms as
 | .io::ms,_::as=>GN ms as
 | _,_=>[]
section
variable {S:Nat->Prop}{pend:Nat->Prop}{F Iow:Nat->Prop}{w0:World}{g0:Gh}{o0:CI}{g:Gh}{w w':World}{tmps:Array Value}{ds:List Deferred}{vm ss ss':List Nat}{s:St}{P:Program}{o:Oper}{key:Nat}
theorem KV.forget(h:KV S pend g w tmps vm ss s){ob':CI}(φ:AV->AV)(hany:φ .any = .any)(hob:∀ k hm,AK k ob'=some hm->AK k s.ob=some hm)
  (hφ:∀ a,φ a = .any∨(φ a=a∧∀ k,k∈a.keys->∀ hm,AK k s.ob=some hm->AK k ob'=some hm)) (ok:Bool) :
  KV S pend g w tmps vm ss { vs:=s.vs.map φ,st:=s.st.map φ,ob:=ob',ok:=ok }:=by
 have one:∀ {v a},SR S w g s.ob v a->SR S w g ob' v (φ a):=by
  intro v a hv;rcases hφ a with e|⟨e,hk⟩
  ·rw[e];exact SR.any
  ·rw[e];exact hv.mono (AR.refl _ _) (fun _ _ c=>c) fun k hkk hm hg=>⟨hm,hk k hkk hm hg,rfl,rfl,rfl,rfl⟩
 exact⟨fun k hm hp hk=>h.home k hm hp (hob k hm hk),by simpa using h.vl,by simpa using h.sl,fun i hi=>by rw[Bg φ hany];exact one (h.vs i hi),fun i hi=>by rw[Bg φ hany];exact one (h.st i hi),h.fit⟩
theorem KV.killAll(h:KV S pend g w tmps vm ss s)(k:Nat):KV S pend g w tmps vm ss (killAll s k):=by
 refine h.forget (AV.kill k) (jR k) (fun j hm hk=>?_) (fun a=>?_) s.ok
 ·rw[DF] at hk;split at hk
  ·cases hk
  ·exact hk
 ·rcases ZD k a with e|⟨e,hn⟩
  ·exact .inl e
  ·refine .inr ⟨e,fun j hj hm hg=>?_⟩;rw[DF,if_neg (fun e:k=j=>hn (by rw[e];exact hj))];exact hg
theorem KV.clear(h:KV S pend g w tmps vm ss s)(d:Nat):KV S pend g w tmps vm ss (clear s d):=by
 unfold Go.Proofs.YteaicgcfpcklkaaGreatDoor.clear;rw[AO];split
 ·refine h.forget (aR d) (by simp[aR,AV.keys]) (fun k hm hk=>?_) (fun a=>?_) s.ok
  ·rw[Fi] at hk;split at hk
   ·cases hk
   ·exact hk
  ·by_cases hc:a.keys.any (fun k=>k/32==d)=true
   ·exact .inl (by simp only[aR,AO];rw[if_pos hc])
   ·refine .inr ⟨by simp only[aR,AO];rw[if_neg hc],fun k hk hm hg=>?_⟩;rw[Fi,if_neg (fun e=>hc (List.any_eq_true.2 ⟨k,hk,by simp[e]⟩))];exact hg
 ·exact h
theorem KV.setIo(h:KV S pend g w tmps vm ss s){k:Nat}{hm h2:Hm}(hk:AK k s.ob=some hm)(hz:h2.sz=hm.sz)(hl:h2.els.length=hm.els.length)(hH:GL S w (g.β k) (g.cap k) h2.sz h2.els):
  KV S (fun j=>pend j∧j≠k) g w tmps vm ss { s with ob:=CR k h2 s.ob }:=by
 have key:∀ j,QA g g s.ob (CR k h2 s.ob) j:=fun j=>QA.set hk hl hz j
 refine⟨fun j h' hp hg=>?_,h.vl,h.sl,fun i hi=>(h.vs i hi).mono (AR.refl _ _) (fun _ _ c=>c) fun j _=>key j,fun i hi=>(h.st i hi).mono (AR.refl _ _) (fun _ _ c=>c) fun j _=>key j,h.fit⟩;simp only[BF] at hg
 by_cases e:k=j
 ·subst e;rw[if_pos rfl] at hg;cases hg;exact hH
 ·rw[if_neg e] at hg;exact h.home j h' (fun c=>hp ⟨c,Ne.symm e⟩) hg
theorem KV.pend'(h:KV S pend g w tmps vm ss s){pend':Nat->Prop}(hp:∀ k,Ih s.ob k->pend k->pend' k):KV S pend' g w tmps vm ss s :=
 ⟨fun k hm hn hg=>h.home k hm (fun c=>hn (hp k ⟨hm,hg⟩ c)) hg,h.vl,h.sl,h.vs,h.st,h.fit⟩
def aw(S:Nat->Prop)(g:Gh)(w:World)(ob:CI)(ms:List Md)(as os:List AV):Prop :=
 ∀ j,j<as.length->ms.getD j .bor = .io->∃ k hm sz els,((as.getD j .any = .own k∧os.getD j .any = .fresh sz els)∨(∃ i i',as.getD j .any = .ref k i 0∧os.getD j .any = .mem sz els i')) ∧
  AK k ob=some hm∧sz=hm.sz∧els.length=hm.els.length∧GL S w (g.β k) (g.cap k) sz els
theorem aw.tail{ob ob':CI}{m:Md}{a q:AV}{ms:List Md}{as os:List AV}(hI:aw S g w ob (m::ms) (a::as) (q::os))(hl:ms.length=as.length)
  (hk:∀ k,k∈BW ms as->∀ hm,AK k ob=some hm->AK k ob'=some hm):aw S g w ob' ms as os:=by
 intro j hj hm;obtain⟨k,h0,sz,els,h1,h2,h3⟩:=hI (j+1) (by simpa using hj) (by simpa using hm);simp only[List.getD_cons_succ] at h1;refine⟨k,h0,sz,els,h1,hk k (Ju ms as j hl hj (by rw[hm];decide) k ?_) h0 h2,h3⟩;rcases h1 with⟨e,_⟩|⟨_,_,e,_⟩<;>rw[e]<;>simp[AV.key1]
theorem KG:∀ (ms:List Md) (as os:List AV) {s:St} {pend:Nat->Prop},KV S pend g w tmps vm ss s->ms.length=as.length->aw S g w s.ob ms as os->Dg (BW ms as)=true->(Ae s ms as os).ok=true ->
  KV S (fun k=>pend k∧k ∉ BW ms as) g w tmps vm ss (Ae s ms as os)∧s.ok=true ∧
  (∀ k h',AK k (Ae s ms as os).ob=some h'->k ∉ GN ms as∧∃ h0,AK k s.ob=some h0∧h'.sz=h0.sz∧h'.els.length=h0.els.length)
 | [],[],os,s,pend,h,_,_,_,hok=>by
  cases os with
  | nil=>simp only[Ae] at hok ⊢;exact⟨by simpa[BW] using h,hok,fun k h' hg=>⟨by simp[GN],h',hg,rfl,rfl⟩⟩
  | cons q os=>simp[Ae,fail] at hok
 | [],_::_,_,_,_,_,hl,_,_,_=>by simp at hl
 | _::_,[],_,_,_,_,hl,_,_,_=>by simp at hl
 | m::ms,a::as,[],s,pend,h,_,_,_,hok=>by cases m<;>cases a<;>simp[Ae,fail] at hok
 | .bor::ms,a::as,q::os,s,pend,h,hl,hI,hd,hok=>by
  simp only[Ae] at hok ⊢;exact KG ms as os h (by simpa using hl) (hI.tail (by simpa using hl) fun _ _ _ c=>c) (by simpa[BW] using hd) hok
 | .io::ms,a::as,q::os,s,pend,h,hl,hI,hd,hok=>by
  have hl':ms.length=as.length:=by simpa using hl
  obtain⟨k,h0,sz,els,h1,h2,h3,h4,h5⟩:=hI 0 (by simp) rfl;simp only[List.getD_cons_zero] at h1;have hkey:a.key1=[k]:=by rcases h1 with⟨e,_⟩|⟨_,_,e,_⟩<;>rw[e]<;>rfl
  have hd':Dg (a.key1++BW ms as)=true:=by simpa[BW] using hd
  rw[hkey] at hd';obtain⟨hd1,hd2⟩:=Gz hd'
  have hstep:Ae s (.io::ms) (a::as) (q::os)=Ae { s with ob:=CR k ⟨sz,els⟩ s.ob } ms as os:=by
   rcases h1 with⟨e1,e2⟩|⟨_,_,e1,e2⟩<;>subst e1<;>subst e2<;>rfl
  rw[hstep] at hok ⊢;have hset:=h.setIo (h2:=⟨sz,els⟩) h2 h3 h4 h5
  obtain⟨r1,r2,r3⟩:=KG ms as os hset hl' (hI.tail hl' fun j hj hm hg=>by
   have:k≠j:=fun e=>hd2 k (by simp) (e▸hj)
   rw[BF,if_neg this];exact hg) hd1 hok
  refine⟨r1.pend' fun j _ hp=>⟨hp.1.1,?_⟩,r2,fun j h' hg=>?_⟩
  ·simp only[BW,hkey,List.mem_append,List.mem_singleton];rintro (e|e)
   ·exact hp.1.2 e
   ·exact hp.2 e
  ·obtain⟨e0,e1,e2,e3,e4⟩:=r3 j h' hg;refine⟨by simpa[GN] using e0,?_⟩;simp only[BF] at e2
   by_cases e:k=j
   ·subst e;rw[if_pos rfl] at e2;cases e2;exact⟨h0,h2,by rw[e3,h3],by rw[e4,h4]⟩
   ·rw[if_neg e] at e2;exact⟨e1,e2,e3,e4⟩
 | .mov::ms,a::as,q::os,s,pend,h,hl,hI,hd,hok=>by
  have hl':ms.length=as.length:=by simpa using hl
  have hd':Dg (a.key1++BW ms as)=true:=by simpa[BW] using hd
  obtain⟨hd1,hd2⟩:=Gz hd';cases a<;>simp only[Ae,fail] at hok<;>try (cases hok;done)
  case nilsl=>
   simp only[Ae] at hok ⊢;obtain⟨r1,r2,r3⟩:=KG ms as os h hl' (hI.tail hl' fun _ _ _ c=>c) hd1 hok;exact⟨by simpa[BW,AV.key1] using r1,r2,by simpa[GN,AV.key1] using r3⟩
  case own k=>
   simp only[Ae] at hok ⊢
   obtain⟨r1,r2,r3⟩:=KG ms as os (h.killAll k) hl' (hI.tail hl' fun j hj hm hg=>by
    have:k≠j:=fun e=>hd2 k (by simp[AV.key1]) (e▸hj)
    simp only[Go.Proofs.YteaicgcfpcklkaaGreatDoor.killAll];rw[DF,if_neg this];exact hg) hd1 hok
   have hgone:∀ j h',AK j (Ae (Go.Proofs.YteaicgcfpcklkaaGreatDoor.killAll s k) ms as os).ob=some h'->j≠k:=fun j h' hg e=>by
    obtain⟨_,e1,e2,_⟩:=r3 j h' hg;simp only[Go.Proofs.YteaicgcfpcklkaaGreatDoor.killAll] at e2;rw[DF,if_pos e.symm] at e2;cases e2
   refine⟨r1.pend' fun j ⟨h',hg⟩ hp=>⟨hp.1,?_⟩,r2,fun j h' hg=>?_⟩
   ·simp only[BW,AV.key1,List.mem_append,List.mem_singleton];rintro (e|e)
    ·exact hgone j h' hg e
    ·exact hp.2 e
   ·obtain⟨e0,e1,e2,e3,e4⟩:=r3 j h' hg;have hjk:=hgone j h' hg;refine⟨?_,e1,?_,e3,e4⟩
    ·simp only[GN,AV.key1,List.mem_append,List.mem_singleton];rintro (e|e)
     ·exact hjk e
     ·exact e0 e
    ·simp only[Go.Proofs.YteaicgcfpcklkaaGreatDoor.killAll] at e2;rw[DF,if_neg (Ne.symm hjk)] at e2;exact e2
end
open Go Go.RowKit
def Gr(r:AV)(i:Nat):Bool :=
 match r with
 | .tup as=>decide (1<=i)&&(decide (i<=as.length)&&HJ (as.getD (i-1) .any))
 | a=>decide (i=0)&&HJ a
theorem dJ{r:AV}{i:Nat}:Gr r i=true ↔ Ht r i:=by
 cases r<;>simp only[Gr,Ht,baT,dtE]
 case tup as=>
  constructor
  ·rintro⟨h1,h2,h3⟩;exact⟨i-1,by omega,by omega,h3⟩
  ·rintro⟨j,rfl,hj,hf⟩;exact⟨by omega,by omega,by simpa using hf⟩
def Hk(r:AV)(i:Nat):AV :=
 match r with
 | .tup as=>as.getD (i-1) .any
 | a=>a
theorem am(k d:Nat):∀ (cs:List AV) (j:Nat) (ob:CI),j+cs.length<=32 ->
  AK k (ES ob (Jk d j cs))=if k/32=d∧j<=k%32∧k%32<j+cs.length∧HJ (cs.getD (k%32-j) .any)=true then Gk (cs.getD (k%32-j) .any) else AK k ob
 | [],j,ob,_=>by simp only[Jk,ES,List.length_nil];rw[if_neg (by omega)]
 | a::r,j,ob,hl=>by
  simp only[List.length_cons] at hl ⊢;have ih:=fun ob=>am k d r (j+1) ob (by omega)
  have skip:HJ a=false->AK k (ES ob (Jk d (j+1) r))=if k/32=d∧j<=k%32∧k%32<j+(r.length+1)∧HJ ((a::r).getD (k%32-j) .any)=true then Gk ((a::r).getD (k%32-j) .any) else AK k ob:=by
   intro hf;rw[ih]
   by_cases e:k%32=j
   ·rw[if_neg (by omega),if_neg];rintro⟨_,_,_,h⟩;rw[e,Nat.sub_self,List.getD_cons_zero,hf] at h;cases h
   ·by_cases e2:j<=k%32
    ·have e3:k%32-j=(k%32-(j+1))+1:=by omega
     rw[e3,List.getD_cons_succ]
     by_cases e4:k/32=d∧j+1<=k%32∧k%32<j+1+r.length∧HJ (r.getD (k%32-(j+1)) .any)=true
     ·rw[if_pos e4,if_pos ⟨e4.1,e2,by omega,e4.2.2.2⟩]
     ·rw[if_neg e4,if_neg];rintro⟨h1,h2,h3,h4⟩;exact e4 ⟨h1,by omega,by omega,h4⟩
    ·rw[if_neg (by omega),if_neg (by omega)]
  have put:∀ (sz:Nat) (els:List AV) (x:AV),HJ x=true->Gk x=some ⟨sz,els⟩->Jk d j (x::r)=(Bd d+j,⟨sz,els⟩)::Jk d (j+1) r->AK k (ES ob (Jk d j (x::r)))=if k/32=d∧j<=k%32∧k%32<j+(r.length+1)∧HJ ((x::r).getD (k%32-j) .any)=true then Gk ((x::r).getD (k%32-j) .any) else AK k ob:=by
   intro sz els x hx1 hx2 hx3;rw[hx3];simp only[ES];rw[ih,BF]
   by_cases e:k%32=j
   ·rw[if_neg (by omega)]
    by_cases e1:k/32=d
    ·rw[if_pos (by unfold Bd;omega),if_pos ⟨e1,by omega,by omega,by rw[e,Nat.sub_self];exact hx1⟩,e,Nat.sub_self];exact hx2.symm
    ·rw[if_neg (by unfold Bd;omega),if_neg (by omega)]
   ·by_cases e2:j<=k%32
    ·have e3:k%32-j=(k%32-(j+1))+1:=by omega
     rw[e3,List.getD_cons_succ,if_neg (c:=Bd d+j=k) (by unfold Bd;omega)]
     by_cases e4:k/32=d∧j+1<=k%32∧k%32<j+1+r.length∧HJ (r.getD (k%32-(j+1)) .any)=true
     ·rw[if_pos e4,if_pos ⟨e4.1,e2,by omega,e4.2.2.2⟩]
     ·rw[if_neg e4,if_neg];rintro⟨h1,h2,h3,h4⟩;exact e4 ⟨h1,by omega,by omega,h4⟩
    ·rw[if_neg (by omega),if_neg (c:=Bd d+j=k) (by unfold Bd;omega),if_neg (by omega)]
  cases a
  case fresh sz els=>exact put sz els _ rfl rfl rfl
  case mem sz els ix=>exact put sz els _ rfl rfl rfl
  all_goals exact skip rfl
theorem PV{d:Nat}{r:AV}(hok:(adopt d r).ok=true)(k:Nat)(ob:CI):AK k (ES ob (adopt d r).hs)=if k/32=d∧Gr r (k%32)=true then Gk (Hk r (k%32)) else AK k ob:=by
 have none:(adopt d r).hs=[]->(∀ i,Gr r i=false)->AK k (ES ob (adopt d r).hs)=if k/32=d∧Gr r (k%32)=true then Gk (Hk r (k%32)) else AK k ob:=by
  intro h0 h1;rw[h0,h1];simp[ES]
 cases r
 case tup cs=>
  simp only[adopt,dtE] at hok ⊢;rw[am k d cs 1 ob (by omega)];simp only[Gr,Hk,baT,dtE]
  by_cases e:k/32=d∧1<=k%32∧k%32<1+cs.length∧HJ (cs.getD (k%32-1) .any)=true
  ·rw[if_pos e,if_pos ⟨e.1,e.2.1,by omega,e.2.2.2⟩]
  ·rw[if_neg e,if_neg];rintro⟨h1,h2,h3,h4⟩;exact e ⟨h1,h2,by omega,h4⟩
 case fresh sz els=>
  simp only[adopt,ES,BF,Gr,Hk,HJ,Bool.and_true,dtE,Gk]
  by_cases e:k/32=d∧k%32=0
  ·rw[if_pos e,if_pos (by unfold Bd;omega)]
  ·rw[if_neg e,if_neg (by unfold Bd;omega)]
 case fn f a b=>exact none (by simp[adopt,ET]) (fun i=>by simp[Gr,HJ])
 case own=>simp[adopt,bad] at hok
 case mem sz els ix=>
  simp only[adopt,ES,BF,Gr,Hk,HJ,Bool.and_true,dtE,Gk]
  by_cases e:k/32=d∧k%32=0
  ·rw[if_pos e,if_pos (by unfold Bd;omega)]
  ·rw[if_neg e,if_neg (by unfold Bd;omega)]
 case ref=>simp[adopt,bad] at hok
 case opt=>simp[adopt,bad] at hok
 all_goals exact none rfl (fun i=>by simp[Gr,HJ])
theorem ai(d:Nat):∀ (cs:List AV) (j i:Nat),i<cs.length->(Lb d j cs).getD i .any=match cs.getD i .any with | .fresh _ _=>.own (Bd d+(j+i)) | .mem _ _ _=>.ref (Bd d+(j+i)) 0 0|x=>x
 | [],_,_,h=>by simp at h
 | a::r,j,0,_=>by cases a<;>rfl
 | a::r,j,i+1,h=>by
  have ih:=ai d r (j+1) i (by simpa using h);rw[List.getD_cons_succ,show j+(i+1)=j+1+i by omega,← ih];cases a<;>rfl
theorem Qk(d:Nat):∀ (cs:List AV) (j:Nat),(Lb d j cs).length=cs.length
 | [],_=>rfl
 | a::r,j=>by
  have ih:=Qk d r (j+1);cases a<;>simp[Lb,ih]
theorem VR.toSR1{S:Nat->Prop}{w:World}{g:Gh}{ob:CI}{v:Value}{a:AV}(h:VR S w v a):MO S w g ob v a:=by
 cases a<;>first|exact h|(cases h)
theorem ALK{S:Nat->Prop}{pend:Nat->Prop}{g:Gh}{w:World}{tmps:Array Value}{vm ss ss':List Nat}{s:St}(h:KV S pend g w tmps vm ss s)(hnd:Ns vm){dst:Option Nat}{D:Hv}(hd:Dt vm ss dst D=some ss')
  (hfit:∀ d,dst=some d->d<tmps.size) {v:Value} {a:AV} (c:Bool) (hv:SR S w g s.ob v a):KV S pend g w (Gt tmps dst v) vm ss' (Ay s c a D):=by
 cases dst with
 | none=>
  cases D<;>simp[Dt] at hd
  subst hd;exact⟨h.home,h.vl,h.sl,h.vs,h.st,h.fit⟩
 | some d=>
  have hdt:=hfit d rfl;have hv':=hv;cases D with
  | no=>simp[Dt] at hd
  | push=>
   simp only[Dt] at hd;split at hd
   ·cases hd
   rename_i hn;simp only[Option.some.injEq] at hd;subst hd;have hn1:d ∉ vm:=fun c=>hn (.inl c)
   have hn2:d ∉ ss:=fun c=>hn (.inr c)
   refine⟨h.home,h.vl,by simpa[Ay] using h.sl,fun i hi=>?_,fun i hi=>?_,fun t ht=>?_⟩
   ·have hne:d≠vm.getD i 0:=fun e=>hn1 (by rw[e,gdE,geE hi];exact List.getElem_mem hi)
    simp only[Gt,Df hne];exact h.vs i hi
   ·cases i with
    | zero=>simp only[Gt,Ay,List.getD_cons_zero,IE hdt];exact hv'
    | succ i=>
     have hi':i<ss.length:=by simpa using hi
     have hne:d≠ss.getD i 0:=fun e=>hn2 (by rw[e,gdE,geE hi'];exact List.getElem_mem hi')
     simp only[Gt,Ay,List.getD_cons_succ,Df hne];exact h.st i hi'
   ·simp only[Gt,Array.size_setIfInBounds];rcases ht with ht|ht
    ·exact h.fit t (.inl ht)
    ·rcases List.mem_cons.1 ht with e|ht
     ·exact e▸hdt
     ·exact h.fit t (.inr ht)
  | slot n=>
   simp only[Dt] at hd;split at hd
   ·rename_i hn;simp only[Option.some.injEq] at hd;subst hd;obtain⟨hn1,hn2,hsn⟩:=hn
    have hnl:n<ss.length:=by
     rcases Nat.lt_or_ge n ss.length with h' | h'
     ·exact h'
     ·rw[List.getElem?_eq_none h'] at hn1;cases hn1
    have hvn:ss.getD n 0=d:=by rw[gdE,hn1];rfl
    refine⟨h.home,h.vl,by simpa[Ay] using h.sl,fun i hi=>?_,fun i hi=>?_,fun t ht=>?_⟩
    ·have hne:d≠vm.getD i 0:=fun e=>hn2 (by rw[e,gdE,geE hi];exact List.getElem_mem hi)
     simp only[Gt,Df hne];exact h.vs i hi
    ·by_cases hin:n=i
     ·subst hin
      have:(s.st.set n a).getD n .any=a:=by
       rw[gdE,List.getElem?_set_self (by rw[h.sl];exact hnl)];rfl
      simp only[Gt,Ay,hvn,IE hdt,this];exact hv'
     ·have hne:d≠ss.getD i 0:=by
       intro e;have h1:ss[n]? = ss[i]?:=by rw[hn1,e,gdE,geE hi];rfl
       exact hin ((List.getElem?_inj hnl hsn).1 h1)
      have:(s.st.set n a).getD i .any=s.st.getD i .any:=by
       rw[gdE,List.getElem?_set_ne hin,gdE]
      simp only[Gt,Ay,Df hne,this];exact h.st i hi
    ·simp only[Gt,Array.size_setIfInBounds];exact h.fit t ht
   ·cases hd
  | var n=>
   simp only[Dt] at hd;split at hd
   ·rename_i hn;simp only[Option.some.injEq] at hd;subst hd;obtain⟨hn1,hn2,hn3⟩:=hn
    have hnl:n<vm.length:=by
     rcases Nat.lt_or_ge n vm.length with h' | h'
     ·exact h'
     ·rw[List.getElem?_eq_none h'] at hn1;cases hn1
    have hvn:vm.getD n 0=d:=by rw[gdE,hn1];rfl
    refine⟨h.home,by simpa[Ay] using h.vl,h.sl,fun i hi=>?_,fun i hi=>?_,fun t ht=>?_⟩
    ·by_cases hin:n=i
     ·subst hin
      have:(s.vs.set n a).getD n .any=a:=by
       rw[gdE,List.getElem?_set_self (by rw[h.vl];exact hnl)];rfl
      simp only[Gt,Ay,hvn,IE hdt,this];exact hv'
     ·have hne:d≠vm.getD i 0:=VZ hn1 hn3 hi hin
      have:(s.vs.set n a).getD i .any=s.vs.getD i .any:=by
       rw[gdE,List.getElem?_set_ne hin,gdE]
      simp only[Gt,Ay,Df hne,this];exact h.vs i hi
    ·have hne:d≠ss.getD i 0:=fun e=>hn2 (by rw[e,gdE,geE hi];exact List.getElem_mem hi)
     simp only[Gt,Df hne];exact h.st i hi
    ·simp only[Gt,Array.size_setIfInBounds];exact h.fit t ht
   ·cases hd
section
variable {S:Nat->Prop}{pend:Nat->Prop}{F Iow:Nat->Prop}{w0:World}{g0:Gh}{o0:CI}{g:Gh}{w w':World}{tmps:Array Value}{ds:List Deferred}{vm ss ss':List Nat}{s:St}{P:Program}{o:Oper}{key:Nat}
def Eg(g gb:Gh)(κ:Nat->Nat)(key:Nat)(r:AV):Gh :=
 ⟨fun k=>if k/32=key∧Gr r (k%32)=true then gb.β (κ (k%32)) else g.β k,fun k=>if k/32=key∧Gr r (k%32)=true then gb.cap (κ (k%32)) else g.cap k⟩
theorem cd{d j:Nat}(hj:j<32):(Bd d+j)/32=d∧(Bd d+j)%32=j:=by unfold Bd;omega
theorem RV.adopt{S':Nat->Prop}{gb:Gh}{obb ob:CI}{κ:Nat->Nat}{v:Value}{r:AV}(hv:RV S' w gb obb κ v r)(hS:∀ b,S b->S' b)(hok:(adopt key r).ok=true):
  SR S w (Eg g gb κ key r) (ES ob (Go.Proofs.YteaicgcfpcklkaaGreatDoor.adopt key r).hs) v (Go.Proofs.YteaicgcfpcklkaaGreatDoor.adopt key r).v:=by
 have sub:∀ {u a},VR S' w u a->VR S w u a:=fun h=>h.mono (AR.refl _ _) fun b _ c=>hS b c
 have own1:∀ {i:Nat} {u:Value} {sz:Nat} {els:List AV},i<32->Gr r i=true->Hk r i = .fresh sz els->vW S' w gb obb (κ i) u (.fresh sz els) ->
   MO S w (Eg g gb κ key r) (ES ob (Go.Proofs.YteaicgcfpcklkaaGreatDoor.adopt key r).hs) u (.own (Bd key+i)):=by
  intro i u sz els hi hf hp hu;obtain⟨h1,h2⟩:=cd (d:=key) hi;refine⟨⟨sz,els⟩,by rw[PV hok,h1,h2,if_pos ⟨rfl,hf⟩,hp];rfl,?_⟩;simp only[Eg,h1,h2,hf,and_self,if_true];exact hu.2
 have mem1:∀ {i:Nat} {u:Value} {sz:Nat} {els:List AV} {ix:Nat},i<32->Gr r i=true->Hk r i = .mem sz els ix->vW S' w gb obb (κ i) u (.mem sz els ix) ->
   MO S w (Eg g gb κ key r) (ES ob (Go.Proofs.YteaicgcfpcklkaaGreatDoor.adopt key r).hs) u (.ref (Bd key+i) 0 0):=by
  intro i u sz els ix hi hf hp hu;obtain⟨h1,h2⟩:=cd (d:=key) hi;refine⟨⟨sz,els⟩,by rw[PV hok,h1,h2,if_pos ⟨rfl,hf⟩,hp];rfl,?_⟩;simp only[Eg,h1,h2,hf,and_self,if_true];obtain⟨_,hl,e⟩:=hu;exact⟨by simp only[hl];omega,by rw[e,Nat.zero_mul]⟩
 cases r
 case fresh sz els=>exact own1 (i:=0) (by omega) (by simp[Gr,HJ]) rfl hv
 case mem sz els ix=>exact mem1 (i:=0) (by omega) (by simp[Gr,HJ]) rfl hv
 case tup cs=>
  obtain⟨vs,rfl,hn,hall⟩:=hv;have hlen:cs.length<31:=by simpa[Go.Proofs.YteaicgcfpcklkaaGreatDoor.adopt] using hok
  refine⟨vs,rfl,by rw[Qk,hn],fun j hj=>?_⟩;rw[Qk] at hj;rw[ai key cs 1 j hj];have hj1:=hall j hj
  have hfp:HJ (cs.getD j .any)=true->Gr (.tup cs) (j+1)=true:=fun h=>by
   simp only[Gr,Nat.add_sub_cancel,h,Bool.and_true,baT,dtE];omega
  have hpart:Hk (.tup cs) (j+1)=cs.getD j .any:=by simp[Hk]
  split
  ·rename_i sz els he;rw[he] at hj1 hpart hfp;rw[Nat.add_comm 1 j];exact own1 (i:=j+1) (by omega) (hfp rfl) hpart hj1
  ·rename_i sz els ix he;rw[he] at hj1 hpart hfp;rw[Nat.add_comm 1 j];exact mem1 (i:=j+1) (by omega) (hfp rfl) hpart hj1
  ·rename_i hne hne2
   have:VR S' w (vs.getD j undef) (cs.getD j .any):=by
    revert hj1 hne hne2;generalize cs.getD j .any=x;intro hj1 hne hne2;cases x<;>first|exact hj1|exact absurd rfl (hne _ _)|exact absurd rfl (hne2 _ _ _)
   exact (sub this).toSR1
 case fn f a b=>exact (sub hv).toSR
 case own=>simp[Go.Proofs.YteaicgcfpcklkaaGreatDoor.adopt,bad] at hok
 case ref=>simp[Go.Proofs.YteaicgcfpcklkaaGreatDoor.adopt,bad] at hok
 case opt=>simp[Go.Proofs.YteaicgcfpcklkaaGreatDoor.adopt,bad] at hok
 all_goals exact (sub hv).toSR
theorem kM{d k:Nat}(hk:k/32=d):¬ Ih (clear s d).ob k:=by
 intro ⟨hm,hg⟩;unfold Go.Proofs.YteaicgcfpcklkaaGreatDoor.clear at hg;rw[AO] at hg;split at hg
 ·simp[Fi,hk] at hg
 ·rename_i hn;exact Nd (by simpa using hn) hg hk
theorem KV.adopt(h:KV S (fun _=>False) g w tmps vm ss s)(hnd:Ns vm){dst:Option Nat}{D:Hv}(hd:Dt vm ss dst D=some ss')(hfit:∀ d,dst=some d->d<tmps.size){c:Bool}
  {S':Nat->Prop} {gb:Gh} {obb:CI} {κ:Nat->Nat} {v:Value} {r:AV} (hv:RV S' w gb obb κ v r) (hS:∀ b,S b->S' b)
  (hH:∀ i,Ht r i->∀ sz els,Gk (Hk r i)=some ⟨sz,els⟩->GL S w (gb.β (κ i)) (gb.cap (κ i)) sz els) (hok:(DA s key D (FQ c (adopt key r))).ok=true) :
  KV S (fun _=>False) (Eg g gb κ key r) w (Gt tmps dst v) vm ss' (DA s key D (FQ c (Go.Proofs.YteaicgcfpcklkaaGreatDoor.adopt key r)))∧s.ok=true∧c=true ∧
  (∀ k h',AK k (DA s key D (FQ c (Go.Proofs.YteaicgcfpcklkaaGreatDoor.adopt key r))).ob=some h'->(k/32=key∧Gr r (k%32)=true)∨(¬ (k/32=key∧Gr r (k%32)=true)∧AK k s.ob=some h')):=by
 have hoks:s.ok=true∧c=true∧(Go.Proofs.YteaicgcfpcklkaaGreatDoor.adopt key r).ok=true:=by
  revert hok;unfold DA FQ;cases (Go.Proofs.YteaicgcfpcklkaaGreatDoor.adopt key r).hs with
  | nil=>simp only[RE];intro hok;cases D<;>simpa[Ay] using hok
  | cons p q=>
   simp only[RE,QC];have:(Go.Proofs.YteaicgcfpcklkaaGreatDoor.clear s key).ok=s.ok:=by unfold Go.Proofs.YteaicgcfpcklkaaGreatDoor.clear;rw[AO];split<;>rfl
   intro hok;cases D<;>simpa[Ay,this] using hok
 obtain⟨h1,h2,h3⟩:=hoks
 have mid:∃ s1:St,DA s key D (FQ c (Go.Proofs.YteaicgcfpcklkaaGreatDoor.adopt key r))=Ay { s1 with ob:=ES s1.ob (Go.Proofs.YteaicgcfpcklkaaGreatDoor.adopt key r).hs } (c&&(Go.Proofs.YteaicgcfpcklkaaGreatDoor.adopt key r).ok) (Go.Proofs.YteaicgcfpcklkaaGreatDoor.adopt key r).v D∧KV S (fun _=>False) g w tmps vm ss s1 ∧
   (∀ k h',AK k s1.ob=some h'->AK k s.ob=some h')∧(∀ k,k/32=key->Gr r (k%32)=true->¬ Ih s1.ob k):=by
  unfold DA FQ;cases hhs:(Go.Proofs.YteaicgcfpcklkaaGreatDoor.adopt key r).hs with
  | nil=>
   refine⟨s,rfl,h,fun k h' hg=>hg,fun k hk hf=>?_⟩;exfalso;have:=PV h3 k [];rw[hhs,if_pos ⟨hk,hf⟩] at this;simp only[ES,AK] at this
   have hfr:HJ (Hk r (k%32))=true:=by
    revert hf;cases r<;>simp[Gr,Hk]<;>(try (intro _ h;exact h))<;>(try (intro _ _ h;exact h))
   revert this hfr;generalize Hk r (k%32)=x;intro this hfr;cases x<;>simp[HJ,Gk] at hfr this
  | cons p q=>exact⟨Go.Proofs.YteaicgcfpcklkaaGreatDoor.clear s key,rfl,h.clear key,fun k h' hg=>dX hg,fun k hk _=>kM hk⟩
 obtain⟨s1,e1,hs1,hsub,hnone⟩:=mid;have hget:=PV (d:=key) h3
 have hkey:∀ k,QA g (Eg g gb κ key r) s1.ob (ES s1.ob (Go.Proofs.YteaicgcfpcklkaaGreatDoor.adopt key r).hs) k:=by
  intro k h' hg;have hn:¬ (k/32=key∧Gr r (k%32)=true):=fun e=>hnone k e.1 e.2 ⟨h',hg⟩
  exact⟨h',by rw[hget,if_neg hn];exact hg,rfl,rfl,by simp[Eg,hn],by simp[Eg,hn]⟩
 have hs2:KV S (fun _=>False) (Eg g gb κ key r) w tmps vm ss { s1 with ob:=ES s1.ob (Go.Proofs.YteaicgcfpcklkaaGreatDoor.adopt key r).hs }:=by
  refine⟨fun k h' _ hg=>?_,hs1.vl,hs1.sl,fun i hi=>(hs1.vs i hi).mono (AR.refl _ _) (fun _ _ c=>c) fun k _=>hkey k,fun i hi=>(hs1.st i hi).mono (AR.refl _ _) (fun _ _ c=>c) fun k _=>hkey k,hs1.fit⟩;simp only[hget] at hg
  by_cases e:k/32=key∧Gr r (k%32)=true
  ·rw[if_pos e] at hg;simp only[Eg,if_pos e];exact hH _ (dJ.1 e.2) h'.sz h'.els hg
  ·rw[if_neg e] at hg;simp only[Eg,if_neg e];exact hs1.home k h' (fun c=>c) hg
 have hval:SR S w (Eg g gb κ key r) (ES s1.ob (Go.Proofs.YteaicgcfpcklkaaGreatDoor.adopt key r).hs) v (Go.Proofs.YteaicgcfpcklkaaGreatDoor.adopt key r).v:=hv.adopt hS h3;refine⟨?_,h1,h2,fun k h' hg=>?_⟩
 ·rw[e1];have:=ALK (S:=S) hs2 hnd hd hfit (c&&(Go.Proofs.YteaicgcfpcklkaaGreatDoor.adopt key r).ok) hval;exact this
 ·rw[e1] at hg;have hob:(Ay { s1 with ob:=ES s1.ob (Go.Proofs.YteaicgcfpcklkaaGreatDoor.adopt key r).hs } (c&&(Go.Proofs.YteaicgcfpcklkaaGreatDoor.adopt key r).ok) (Go.Proofs.YteaicgcfpcklkaaGreatDoor.adopt key r).v D).ob=ES s1.ob (Go.Proofs.YteaicgcfpcklkaaGreatDoor.adopt key r).hs:=by cases D<;>rfl
  rw[hob,hget] at hg
  by_cases e:k/32=key∧Gr r (k%32)=true
  ·exact .inl e
  ·rw[if_neg e] at hg;exact .inr ⟨e,hsub k h' hg⟩
end
theorem AAC{s:St}{d:Nat}:(clear s d).ok=s.ok:=by unfold clear;rw[AO];split<;>rfl
theorem RF{s:St}{c:Bool}{a:AV}{D:Hv}(h:(Ay s c a D).ok=true):s.ok=true∧c=true:=by cases D<;>simpa[Ay] using h
theorem GM{s:St}{key:Nat}{D:Hv}{m:Mk}(h:(DA s key D m).ok=true):s.ok=true∧m.ok=true:=by
 unfold DA at h;cases hm:m.hs with
 | nil=>rw[hm] at h;exact RF h
 | cons p q=>
  rw[hm] at h;simp only[RE] at h;have:=RF h;simpa[QC,AAC] using this
theorem jn{s:St}{k j:Nat}:AK j (freezeH s k (AK k s.ob)).ob=if k=j then none else AK j s.ob:=by
 cases hk:AK k s.ob with
 | none=>
  simp only[freezeH]
  by_cases e:k=j
  ·rw[if_pos e,← e,hk]
  ·rw[if_neg e]
 | some h=>simp only[freezeH,DF]
theorem MK{j:Nat}:∀ (ks:List Nat) (s:St),AK j (freezeAll s ks).ob=if j∈ks then none else AK j s.ob
 | [],s=>by simp[freezeAll]
 | k::r,s=>by
  simp only[freezeAll];rw[MK r,jn]
  by_cases e1:j∈r
  ·simp[e1]
  ·by_cases e2:k=j
   ·simp[e2]
   ·simp[e1,e2,Ne.symm e2]
theorem AAZ{ob:CI}{ms:List Md}{as:List AV}{k:Nat}{hm:Hm}(hlen:ms.length=as.length)(hsh:EO ms (BU ob ms as)=true)(hg:AK k (BI 0 (BU ob ms as))=some hm):
  ∃ j k0,k=AH j∧j<as.length∧ms.getD j .bor ≠ .bor∧AK k0 ob=some hm∧k0∈(as.getD j .any).key1∧kk as j=k0∧k0∈BW ms as:=by
 obtain⟨_,hsg⟩:=NL _ _ hsh;have hhl:=Jg ob ms as hlen;rw[hhl] at hsg;obtain⟨j,rfl,hf⟩:=LV hg
 have hj:j<as.length:=by
  rcases Nat.lt_or_ge j as.length with h' | h'
  ·exact h'
  ·rw[gdE,List.getElem?_eq_none (by rw[hhl];exact h')] at hf;simp[Gk] at hf
 rw[Fr _ _ _ _ hlen hj] at hf;have hs:=hsg j hj;rw[Fr _ _ _ _ hlen hj] at hs;obtain⟨h1,k0,h2,h3,h4⟩:=XP hf (fun e=>hs.1 e);refine⟨j,k0,rfl,hj,h1,h3,h4,?_,Ju ms as j hlen hj h1 k0 h4⟩;unfold kk;rcases h2 with⟨e,_⟩|⟨_,e,_⟩<;>rw[e]<;>rfl
theorem Zr:∀ (ms:List Md) (as:List AV) {k:Nat},ms.length=as.length->k∈BW ms as->k ∉ GN ms as->∃ j,j<as.length∧ms.getD j .bor = .io∧k∈(as.getD j .any).key1
 | [],[],k,_,h,_=>by simp[BW] at h
 | [],_::_,_,h,_,_=>by simp at h
 | _::_,[],_,h,_,_=>by simp at h
 | m::ms,a::as,k,hl,h,hn=>by
  have ih:=@Zr ms as k (by simpa using hl)
  have up:(∃ j,j<as.length∧ms.getD j .bor = .io∧k∈(as.getD j .any).key1)->∃ j,j<(a::as).length∧(m::ms).getD j .bor = .io∧k∈((a::as).getD j .any).key1:=by
   rintro⟨j,h1,h2,h3⟩;exact⟨j+1,by simpa using h1,by simpa using h2,by simpa using h3⟩
  cases m
  ·exact up (ih (by simpa[BW] using h) (by simpa[GN] using hn))
  ·simp only[BW,List.mem_append] at h;rcases h with h|h
   ·exact⟨0,by simp,rfl,by simpa using h⟩
   ·exact up (ih h (by simpa[GN] using hn))
  ·simp only[BW,GN,List.mem_append,not_or] at h hn;rcases h with h|h
   ·exact absurd h hn.1
   ·exact up (ih h hn.2)
theorem getElem?_io{ms:List Md}{j:Nat}(h:ms.getD j .bor = .io):ms[j]? = some .io:=by
 rw[gdE] at h;cases hm:ms[j]? with
 | none=>rw[hm] at h;cases h
 | some m=>rw[hm] at h;simpa using h
theorem qc{ms:List Md}(h:ABr ms=true)(j:Nat):ms.getD j .bor ≠ .io:=by
 intro e;have h1:=getElem?_io e;simp only[ABr,List.all_eq_true] at h;have:=h .io (List.mem_of_getElem? h1);simp at this
theorem jq{S S':Nat->Prop}{w:World}{g:Gh}{ob:CI}{k:Nat}{v:Value}{a:AV}(hf:EN a=true)(h:vW S w g ob k v a):vW S' w g ob k v a:=by
 cases a
 case fresh sz els=>exact h
 case mem sz els ix=>exact h
 all_goals first|exact jr hf h|(simp[EN,Ej] at hf)
theorem pd{S S':Nat->Prop}{w:World}{g:Gh}{ob:CI}{κ:Nat->Nat}{v:Value}{r:AV}(hf:Do r=true)(h:RV S w g ob κ v r):RV S' w g ob κ v r:=by
 cases r
 case tup as=>
  obtain⟨vs,rfl,hn,hall⟩:=h;simp only[Do,List.all_eq_true] at hf;exact⟨vs,rfl,hn,fun j hjl=>jq (hf _ (by rw[gdE,geE hjl];exact List.getElem_mem hjl)) (hall j hjl)⟩
 all_goals
  simp only[RV] at h ⊢;exact jq hf h
theorem dL{r:AV}(hf:Do r=true){i sz:Nat}{els:List AV}(hi:Ht r i)(hp:Gk (Hk r i)=some ⟨sz,els⟩):∀ i,i<els.length->((els.getD i .any).cells).all Ej=true:=by
 have fm:∀ {x:AV},EN x=true->Gk x=some ⟨sz,els⟩->EN (.fresh sz els)=true:=by
  intro x hx he;cases x<;>simp[Gk] at he<;>obtain⟨rfl,rfl⟩:=he<;>exact hx
 have key:EN (.fresh sz els)=true:=by
  cases r
  case tup as=>
   obtain⟨j,rfl,hj,_⟩:=hi;simp only[Hk,Nat.add_sub_cancel] at hp;simp only[Do,List.all_eq_true] at hf;exact fm (hf _ (by rw[gdE,geE hj];exact List.getElem_mem hj)) hp
  case fresh a b=>exact fm (x:=.fresh a b) hf hp
  case mem a b c=>exact fm (x:=.mem a b c) hf hp
  all_goals
   obtain⟨_,hfr⟩:=hi;simp[HJ] at hfr
 intro j hj;simp only[EN,List.all_eq_true] at key;exact key _ (by rw[gdE,geE hj];exact List.getElem_mem hj)
theorem dM{S S':Nat->Prop}{w:World}{b cap sz:Nat}{els:List AV}(hf:∀ i,i<els.length->((els.getD i .any).cells).all Ej=true)(h:GL S w b cap sz els):GL S' w b cap sz els:=by
 refine⟨h.pos,h.len,h.cells,fun hp=>?_⟩;obtain⟨arr,T,fz,hr,hfz,hs,hv⟩:=h.row hp;refine⟨arr,T,fz,hr,hfz,hs,fun i j hi hj=>jr ?_ (hv i j hi hj)⟩;have h1:=hf i hi;have h2:=(h.cells i hi).1;revert h1 h2;generalize (els.getD i .any).cells=cs;intro h1 h2;simp only[List.all_eq_true] at h1;exact h1 _ (by rw[gdE,geE (by omega)];exact List.getElem_mem _)
theorem RV.fresh{S:Nat->Prop}{w:World}{g:Gh}{ob:CI}{κ:Nat->Nat}{v:Value}{r:AV}(h:RV S w g ob κ v r){i:Nat}(hi:Ht r i):∃ sz els,Gk (Hk r i)=some ⟨sz,els⟩∧AK (κ i) ob=some ⟨sz,els⟩:=by
 cases r
 case tup as=>
  obtain⟨vs,rfl,hn,hall⟩:=h;obtain⟨j,rfl,hj,hfr⟩:=hi;have h1:=hall j hj;simp only[Hk,Nat.add_sub_cancel];revert h1 hfr;generalize as.getD j .any=x;intro hfr h1;cases x<;>simp[HJ] at hfr<;>exact⟨_,_,rfl,h1.1⟩
 case fresh sz els=>
  obtain⟨rfl,_⟩:=hi;exact⟨sz,els,rfl,h.1⟩
 case mem sz els ix=>
  obtain⟨rfl,_⟩:=hi;exact⟨sz,els,rfl,h.1⟩
 all_goals
  obtain⟨_,hfr⟩:=hi;simp[HJ] at hfr
section
variable {F Iow:Nat->Prop}{w0:World}{g0:Gh}{o0:CI}{g:Gh}{w w':World}{tmps:Array Value}{ds:List Deferred}{vm ss ss':List Nat}{s:St}{P:Program}{o:Oper}{key:Nat}
theorem FX.call(h:FX F Iow w0 g0 o0 g w tmps vm ss s)(hnd:Ns vm){dst:Option Nat}{D:Hv}(hd:Dt vm ss dst D=some ss')(hfit:∀ d,dst=some d->d<tmps.size){f:FuncId}{C:Ak}(hC:AQ P f C)
  {vals:Array Value} {as:List AV} (hsz:vals.size=as.length) (hv:∀ j,j<as.length->SR (AW F g s.ob) w g s.ob (vals.getD j undef) (as.getD j .any)) (hok:(Lv s key D as (some C)).ok=true) :
  CZ P f vals w fun e w'=>∃ v g',e = .returned v∧FX F Iow w0 g0 o0 g' w' (Gt tmps dst v) vm ss' (Lv s key D as (some C)):=by
 simp only[Lv,NB] at hok ⊢;generalize hq:C.F (BU s.ob C.modes as)=q at hok ⊢;obtain⟨hok1,hok2⟩:=GM hok;simp only[FQ,baT,beq_iff_eq] at hok2;obtain⟨⟨⟨hsh,hlen,hdis,hap⟩,hqok⟩,hadok⟩:=hok2
 have h1:FX F Iow w0 g0 o0 g w tmps vm ss (Qp C s as):=by
  unfold Qp;rw[AO];split
  ·exact h
  ·exact h.freezeAll _
 have hsub:∀ k hm,AK k (Qp C s as).ob=some hm->AK k s.ob=some hm∧(C.flat=false->k ∉ EA C.modes as):=by
  intro k hm hg;unfold Qp at hg;rw[AO] at hg;split at hg
  ·rename_i e;exact⟨hg,fun e2=>by rw[e] at e2;cases e2⟩
  ·rw[MK] at hg;split at hg
   ·cases hg
   ·rename_i e;exact⟨hg,fun _=>e⟩
 have hkeep:∀ k hm,k∈BW C.modes as->AK k s.ob=some hm->AK k (Qp C s as).ob=some hm:=by
  intro k hm hk hg;unfold Qp;rw[AO];split
  ·exact hg
  ·rw[MK,if_neg (fun e=>ag hap hk e)];exact hg
 generalize Qp C s as=s1 at h1 hsub hkeep hok hok1 ⊢;have hlsub:∀ k,KW g s1.ob k->KW g s.ob k:=fun k ⟨⟨hm,hg⟩,hp⟩=>⟨⟨hm,(hsub k hm hg).1⟩,hp⟩
 have hset1:∀ b,AW F g s1.ob b->AW F g s.ob b:=fun b hb=>Gn (fun k ⟨hm,hg⟩=>⟨hm,(hsub k hm hg).1⟩) hb
 let Fc:Nat->Prop:=fun b=>AW F g s1.ob b∧∀ k,(k∈BW C.modes as∨k∈EA C.modes as)->KW g s.ob k->g.β k≠b
 have hargs:=h.toFR.args (Fc:=Fc) hsz hv hdis hap hlen hsh (fun b hb=>⟨hset1 b hb.1,hb.2⟩);have hhl:=Jg s.ob C.modes as hlen;obtain⟨hflat,hinv⟩:=hC.2 Fc (Ji g as) w (BU s.ob C.modes as) vals hsh (by rw[hsz,hhl]) (by rw[hhl];exact hargs) (by rw[hq];exact hqok);rw[hq] at hflat hinv;refine hinv.mono fun e w' he=>?_
 obtain⟨v,gb,obb,κ,rfl,B⟩:=he
 have gk:∀ j,(Ji g as).β (AH j)=g.β (kk as j)∧(Ji g as).cap (AH j)=g.cap (kk as j):=fun j=>by
  simp[Ji,RJ]
 have hpar:∀ k,KW (Ji g as) (BI 0 (BU s.ob C.modes as)) k->∃ k0,k0∈BW C.modes as∧KW g s1.ob k0∧g.β k0=(Ji g as).β k:=by
  rintro k ⟨⟨hm,hg⟩,hp⟩;obtain⟨j,k0,rfl,hj,_,ho,_,ek,hio⟩:=AAZ hlen hsh hg;rw[(gk j).2,ek] at hp;exact⟨k0,hio,⟨⟨hm,hkeep k0 hm hio ho⟩,hp⟩,by rw[(gk j).1,ek]⟩
 have hsame1:AR (AW F g s1.ob) w w':=B.same.mono fun b _ ⟨k,hk,e⟩=>by
  obtain⟨k0,_,hl,e0⟩:=hpar k hk;exact .inr ⟨k0,hl,by rw[e0,e]⟩
 have hsize:=B.same.size
 let SF:Nat->Prop:=fun b=>F b∨(∃ k,KW g s1.ob k∧k ∉ GN C.modes as∧g.β k=b)∨∃ i,Ht q.r i∧0<gb.cap (κ i)∧gb.β (κ i)=b
 have hSFold:∀ b,b<w.heap.size->SF b->AW F g s1.ob b:=by
  rintro b hb (hf|⟨k,hk,_,e⟩|⟨i,hi,hp,e⟩)
  ·exact .inl hf
  ·exact .inr ⟨k,hk,e⟩
  ·obtain⟨sz,els,_,hg⟩:=B.val.fresh hi;rcases B.hio (κ i) ⟨⟨_,hg⟩,hp⟩ with hge|⟨k',hk',e'⟩
   ·omega
   ·obtain⟨k0,_,hl,e0⟩:=hpar k' hk';exact .inr ⟨k0,hl,by rw[e0,e',e]⟩
 have hioB:∀ k,k∈BW C.modes as->k ∉ GN C.modes as->KW g s1.ob k->∃ j,C.modes[j]? = some .io∧gb.β (AH j)=g.β k∧KW gb obb (AH j):=by
  intro k hk hm hl;obtain⟨j,hj,hmj,hkey⟩:=Zr C.modes as hlen hk hm;obtain⟨sz,e0,els,hcase,hel,hgo,hb,hcp⟩:=B.out j (getElem?_io hmj)
  have hkk:kk as j=k:=by
   unfold kk;revert hkey;generalize as.getD j .any=x;intro hkey;cases x<;>simp[AV.key1] at hkey ⊢<;>exact hkey.symm
  refine⟨j,getElem?_io hmj,by rw[hb,(gk j).1,hkk],⟨_,hgo⟩,?_⟩;rw[hcp,(gk j).2,hkk];exact hl.2
 have hFc:C.flat=false->∀ k,KW g s1.ob k->k ∉ BW C.modes as->Fc (g.β k):=by
  intro hfl k hl hk;refine⟨.inr ⟨k,hl,rfl⟩,fun k' hk' hl' e=>?_⟩;have:=h.inj k' k hl' (hlsub k hl) e;subst this;rcases hk' with hk' | hk'
  ·exact hk hk'
  ·obtain⟨hm,hg⟩:=hl.1;exact (hsub k' hm hg).2 hfl hk'
 have hFF:∀ b,F b->Fc b:=fun b hb=>⟨.inl hb,fun k _ hl e=>h.nF k hl (by rw[e];exact hb)⟩
 have hSub:C.flat=false->∀ b,SF b->AW Fc gb obb b:=by
  rintro hfl b (hf|⟨k,hk,hm,e⟩|⟨i,hi,hp,e⟩)
  ·exact .inl (hFF b hf)
  ·by_cases hio:k∈BW C.modes as
   ·obtain⟨j,_,hb,hl⟩:=hioB k hio hm hk;exact .inr ⟨AH j,hl,by rw[hb,e]⟩
   ·exact .inl (e▸hFc hfl k hk hio)
  ·obtain⟨sz,els,_,hg⟩:=B.val.fresh hi;exact .inr ⟨κ i,⟨⟨_,hg⟩,hp⟩,e⟩
 have FS0:KV SF (fun k=>k∈BW C.modes as) g w' tmps vm ss s1:=by
  refine⟨fun k hm hk hg=>(h1.home k hm hg).mono hsame1 (fun hp=>?_) hSFold,h1.vl,h1.sl,fun i hi=>(h1.vs i hi).mono hsame1 hSFold fun k _ hm hg=>⟨hm,hg,rfl,rfl,rfl,rfl⟩,
   fun i hi=>(h1.st i hi).mono hsame1 hSFold fun k _ hm hg=>⟨hm,hg,rfl,rfl,rfl,rfl⟩,h1.fit⟩
  refine B.same.block _ ((h1.home k hm hg).lt hp) ?_;rintro⟨k',hk',e⟩;obtain⟨k0,hio,hl,e0⟩:=hpar k' hk';exact hk (h1.inj k k0 ⟨⟨hm,hg⟩,hp⟩ hl (by rw[e0,e])▸hio)
 have hIB:aw SF g w' s1.ob C.modes as q.outs:=by
  intro j hj hmj
  have hfl:C.flat=false:=by
   cases hfl:C.flat with
   | false=>rfl
   | true=>exact absurd hmj (qc (hC.1 hfl) j)
  obtain⟨sz,e0,els,hcase,hel,hgo,hb,hcp⟩:=B.out j (getElem?_io hmj)
  have hf:Gk (De s.ob (C.modes.getD j .bor) (as.getD j .any))=some ⟨sz,e0⟩:=by
   rw[← Fr s.ob C.modes as j hlen hj];rcases hcase with⟨e,_⟩|⟨_,_,e,_⟩<;>rw[e]<;>rfl
  obtain⟨_,k0,h2,h3,h4⟩:=XP hf (fun e=>by rw[hmj] at e;cases e);have hio:=Ju C.modes as j hlen hj (by rw[hmj];decide) k0 h4;have ek:kk as j=k0:=by unfold kk;rcases h2 with⟨e,_⟩|⟨_,e,_⟩<;>rw[e]<;>rfl
  have hH:=(B.home (AH j) ⟨sz,els⟩ hgo).mono (AR.refl (AW Fc gb obb) w') (fun _=>rfl) (S':=SF) fun b _ hb=>hSub hfl b hb
  rw[hb,hcp,(gk j).1,(gk j).2,ek] at hH;have hso:=hkeep k0 _ hio h3;have hcase2:=hcase;rw[Fr s.ob C.modes as j hlen hj] at hcase2;refine⟨k0,⟨sz,e0⟩,sz,els,?_,hso,rfl,hel,hH⟩;rcases h2 with⟨e,e2⟩|⟨i0,e,e2⟩
  ·rcases hcase2 with⟨_,e3⟩|⟨_,_,e4,_⟩
   ·exact .inl ⟨e,e3⟩
   ·rw[e2] at e4;cases e4
  ·rcases hcase2 with⟨e4,_⟩|⟨_,i',_,e3⟩
   ·rw[e2] at e4;cases e4
   ·exact .inr ⟨i0,i',e,e3⟩
 obtain⟨FS1,hs1ok,htb⟩:=KG C.modes as q.outs FS0 hlen hIB hdis hok1;have FS2:KV SF (fun _=>False) g w' tmps vm ss (Ae s1 C.modes as q.outs):=FS1.pend' fun k _ hp=>hp.2 hp.1
 have hval:∃ S':Nat->Prop,RV S' w' gb obb κ v q.r∧∀ b,SF b->S' b:=by
  cases hfl:C.flat with
  | true=>exact⟨SF,pd (hflat hfl) B.val,fun _ c=>c⟩
  | false=>exact⟨_,B.val,hSub hfl⟩
 obtain⟨S',hval,hSS⟩:=hval;generalize Ae s1 C.modes as q.outs=s2 at hok FS2 htb ⊢;generalize ((EO C.modes (BU s.ob C.modes as)&&(C.modes.length==as.length&&(Dg (BW C.modes as)&&apart (BW C.modes as) (EA C.modes as))))&&q.ok)=c0 at hok ⊢
 obtain⟨FS3,_,_,hch⟩:=FS2.adopt hnd hd hfit hval hSS (fun i hi sz els hp=>by
  obtain⟨sz',els',e1,e2⟩:=B.val.fresh hi;rw[hp] at e1;cases e1;cases hfl:C.flat with
  | true=>exact dM (dL (hflat hfl) hi hp) (B.home (κ i) ⟨sz,els⟩ e2)
  | false=>exact (B.home (κ i) ⟨sz,els⟩ e2).mono (AR.refl (AW Fc gb obb) w') (fun _=>rfl) (S':=SF) fun b _ hb=>hSub hfl b hb) hok
 refine⟨v,Eg g gb κ key q.r,rfl,?_⟩;generalize DA s2 key D (FQ c0 (adopt key q.r))=s3 at FS3 hch ⊢
 have hin:∀ k,KW (Eg g gb κ key q.r) s3.ob k->(k/32=key∧Ht q.r (k%32)∧(Eg g gb κ key q.r).β k=gb.β (κ (k%32))∧KW gb obb (κ (k%32))) ∨
   (k ∉ GN C.modes as∧KW g s1.ob k∧(Eg g gb κ key q.r).β k=g.β k):=by
  rintro k ⟨⟨hm,hg⟩,hp⟩;rcases hch k hm hg with e|⟨e,hg2⟩
  ·have hfp:=dJ.1 e.2;obtain⟨sz,els,_,hgo⟩:=B.val.fresh hfp;simp only[Eg,if_pos e] at hp;exact .inl ⟨e.1,hfp,by simp only[Eg,if_pos e],⟨_,hgo⟩,hp⟩
  ·obtain⟨hnm,h0,hg0,_⟩:=htb k hm hg2;simp only[Eg,if_neg e] at hp;exact .inr ⟨hnm,⟨⟨h0,hg0⟩,hp⟩,by simp only[Eg,if_neg e]⟩
 have hfin:∀ b,AW F (Eg g gb κ key q.r) s3.ob b->SF b:=by
  rintro b (hf|⟨k,hk,e⟩)
  ·exact .inl hf
  ·rcases hin k hk with⟨_,hfp,e2,hl⟩|⟨hnm,hl,e2⟩
   ·exact .inr (.inr ⟨_,hfp,hl.2,by rw[← e2,e]⟩)
   ·exact .inr (.inl ⟨k,hl,hnm,by rw[← e2,e]⟩)
 have hmix:∀ k k',(Ht q.r (k%32)∧KW gb obb (κ (k%32)))->(k' ∉ GN C.modes as∧KW g s1.ob k')->gb.β (κ (k%32))≠g.β k':=by
  rintro k k' ⟨hfp,hl⟩ ⟨hnm,hl'⟩ e
  by_cases hio:k'∈BW C.modes as
  ·obtain⟨j,hmj,hb,hlj⟩:=hioB k' hio hnm hl';exact B.κio _ j hfp hmj (B.inj _ _ hl hlj (by rw[e,hb]))
  ·rcases B.hio _ hl with hge|⟨k2,hk2,e2⟩
   ·obtain⟨⟨hm,hg⟩,hp⟩:=hl';have:=(h1.home k' hm hg).lt hp;rw[e] at hge;omega
   ·obtain⟨k0,hio0,hl0,e0⟩:=hpar k2 hk2;have:=h1.inj k0 k' hl0 hl' (by rw[e0,e2,e]);exact hio (this▸hio0)
 have hfr:FR F (Eg g gb κ key q.r) w' (Gt tmps dst v) vm ss' s3:=by
  refine⟨fun k hm hg=>(FS3.home k hm (fun c=>c) hg).mono (AR.refl SF w') (fun _=>rfl) fun b _ hb=>hfin b hb,fun k k' hk hk' e=>?_,fun k hk=>?_,fun b hb=>Nat.lt_of_lt_of_le (h1.fb b hb) hsize,FS3.vl,FS3.sl,
   fun i hi=>(FS3.vs i hi).mono (AR.refl SF w') (fun b _ hb=>hfin b hb) fun k _ hm hg=>⟨hm,hg,rfl,rfl,rfl,rfl⟩,fun i hi=>(FS3.st i hi).mono (AR.refl SF w') (fun b _ hb=>hfin b hb) fun k _ hm hg=>⟨hm,hg,rfl,rfl,rfl,rfl⟩,FS3.fit,h1.tab.mono hsame1 fun b hb c=>hSFold b hb (hfin b c)⟩
  ·rcases hin k hk with⟨d1,f1,e1,l1⟩|⟨n1,l1,e1⟩<;>rcases hin k' hk' with⟨d2,f2,e2,l2⟩|⟨n2,l2,e2⟩<;>rw[e1,e2] at e
   ·have:=B.κinj _ _ f1 f2 (B.inj _ _ l1 l2 e);omega
   ·exact absurd e (hmix k k' ⟨f1,l1⟩ ⟨n2,l2⟩)
   ·exact absurd e.symm (hmix k' k ⟨f2,l2⟩ ⟨n1,l1⟩)
   ·exact h1.inj k k' l1 l2 e
  ·rcases hin k hk with⟨d1,f1,e1,l1⟩|⟨n1,l1,e1⟩<;>rw[e1]
   ·exact fun hf=>B.nF _ l1 (hFF _ hf)
   ·exact h1.nF k l1
 refine⟨hfr,h1.same.into (B.same.mono fun b _ ⟨k,hk,e⟩=>?_),fun k hk=>?_,h1.fio,fun k hm hk hg=>?_⟩
 ·obtain⟨k0,_,hl,e0⟩:=hpar k hk;rw[← e,← e0];exact h1.hio k0 hl
 ·rcases hin k hk with⟨d1,f1,e1,l1⟩|⟨n1,l1,e1⟩<;>rw[e1]
  ·rcases B.hio _ l1 with hge|⟨k',hk',e'⟩
   ·exact .inl (Nat.le_trans h1.same.size hge)
   ·obtain⟨k0,_,hl,e0⟩:=hpar k' hk';rw[← e',← e0];exact h1.hio k0 hl
  ·exact h1.hio k l1
 ·rcases hch k hm hg with e|⟨e,hg2⟩
  ·exfalso;have hB:=e.2;rw[hk] at hB;have hlt:∀ cs,q.r = .tup cs->cs.length<31:=fun cs hcs=>by rw[hcs] at hadok;simpa[adopt] using hadok
   revert hB hlt;generalize q.r=x;intro hB hlt;cases x<;>simp[Gr] at hB
   have:=hlt _ rfl;omega
  ·obtain⟨hnm,h0,hg0,hz,hl⟩:=htb k hm hg2;obtain⟨h00,a1,a2,a3,a4⟩:=h1.par k h0 hk hg0;refine⟨h00,a1,by rw[hz,a2],by omega,fun e2=>?_⟩;obtain⟨b1,b2⟩:=a4 (by omega);simp only[Eg,if_neg e];exact⟨b1,b2⟩
end
open Go Go.RowKit
def Ox(vm ss:List Nat)(f:Nat)(args:List Src):Op->Bool
 | .call { callee:=.value (.func f'),args:=xs,argTypes:=_ }=>f'==f&&OD vm ss xs.toList args
 | _=>false
def Uy(vm ss:List Nat)(fs:Src)(args:List Src):Op->Bool
 | .call { callee:=.value y,args:=xs,argTypes:=_ }=>BL vm ss y fs&&OD vm ss xs.toList args
 | _=>false
def Ix(P:Program)(T:Il):Prop:=∀ f C,T f=some C->AQ P f C
section
variable {F Iow:Nat->Prop}{w0:World}{g0:Gh}{o0:CI}{g:Gh}{w w':World}{tmps:Array Value}{ds:List Deferred}{vm ss ss':List Nat}{s:St}{P:Program}{o:Oper}{key:Nat}{T:Il}{D:Hv}
 {K:Act->World->Prop} {Q:Exit->Act->World->Prop}
theorem FX.unS(h:FX F Iow w0 g0 o0 g w tmps vm ss s):FX F Iow w0 g0 o0 g w tmps vm ss (unS s):=⟨h.toFR.unS,h.same,h.hio,h.fio,h.par⟩
theorem FX.setOk(h:FX F Iow w0 g0 o0 g w tmps vm ss s)(ok:Bool):FX F Iow w0 g0 o0 g w tmps vm ss { s with ok:=ok }:=⟨h.toFR.setOk ok,h.same,h.hio,h.fio,h.par⟩
theorem II{f:FuncId}{vals:Array Value}{R:Ending->World->Prop}(h:CZ P f vals w R){a:Act}(hr:∀ v w',R (.returned v) w'->K (a.put o.dst v) w')(hp:∀ c w',¬ R (.panicked c) w')(hout:∀ w',¬ R .outgrown w'):
  o.upon P a K Q ((callFunc f vals).run P w):=by
 unfold CZ at h;split at h
 ·rename_i v w' e;rw[e];exact hr _ _ h
 ·rename_i f' args' w' e;rw[e,Oper.upon_enter];refine Calls.mono h fun en w'' he=>?_
  cases en with
  | returned v=>exact hr _ _ he
  | panicked c=>exact (hp _ _ he).elim
  | outgrown=>exact (hout _ he).elim
 ·exact h.elim
theorem NN(tmps:Array Value)(ds:List Deferred)(dst:Option Nat)(v:Value):({ tmps:=tmps,defers:=ds }:Act).put dst v=⟨Gt tmps dst v,ds⟩:=by cases dst<;>rfl
theorem JA(tmps:Array Value)(dst:Option Nat)(v:Value):(Gt tmps dst v).size=tmps.size:=by cases dst<;>simp[Gt]
theorem IG{ρ:Operand->Value}{y:Operand}{xs:Array Operand}{tys:Array TypeId}{f:FuncId}{v1 v2:Array Value}(hy:ρ y = .func (.func f) v1 v2)(ho:o.op = .call { callee:=.value y,args:=xs,argTypes:=tys }):
  (execOp ρ o).run P w=(callFunc f (v1++xs.map ρ++v2)).run P w:=by
 unfold execOp;simp only[ho,resolve,hy,Deferred.ofValue,invoke,Sem.run_bind,Sem.run_pure,Result.andThen_ok]
theorem UM(hT:Ix P T)(h:FX F Iow w0 g0 o0 g w tmps vm ss s)(hnd:Ns vm)(hd:Dt vm ss o.dst D=some ss')(hfit:∀ d,o.dst=some d->d<tmps.size){c:Cal}{vals:Array Value}
  (hsz:vals.size=c.args.length) (hv:∀ j,j<c.args.length->SR (AW F g s.ob) w g s.ob (vals.getD j undef) (c.args.getD j .any)) (hok:(Iu T s key D c).ok=true)
  (hK:∀ tmps' w' g',tmps'.size=tmps.size->FX F Iow w0 g0 o0 g' w' tmps' vm ss' (Iu T s key D c)->K ⟨tmps',ds⟩ w'):o.upon P ⟨tmps,ds⟩ K Q ((callFunc c.f vals).run P w):=by
 unfold Iu at hok hK;cases hC:T c.f with
 | none=>rw[hC] at hok;simp[Lv,fail] at hok
 | some C=>
  rw[hC] at hok hK;have:=(h.setOk (s.ok&&c.ok)).call (key:=key) hnd hd hfit (hT _ _ hC) hsz hv hok;refine II this (fun v w' hR=>?_) (fun c w' hR=>?_) (fun w' hR=>?_)
  ·obtain⟨v',g',e,hfx⟩:=hR;cases e
   rw[NN];exact hK _ _ _ (JA _ _ _) hfx
  ·obtain⟨v',g',e,_⟩:=hR;cases e
  ·obtain⟨v',g',e,_⟩:=hR;cases e
theorem LG(hT:Ix P T)(h:FX F Iow w0 g0 o0 g w tmps vm ss s){c:Cal}{vals:Array Value}
  (hsz:vals.size=c.args.length) (hv:∀ j,j<c.args.length->SR (AW F g s.ob) w g s.ob (vals.getD j undef) (c.args.getD j .any)) (hok:(CY T s.ob c).ok=true) (hl:(CY T s.ob c).v.lone=true) (hh:(CY T s.ob c).hs=[]) :
  CZ P c.f vals w fun e w'=>∃ v,e = .returned v∧AR (fun _=>False) w w'∧SR (AW F g s.ob) w' g s.ob v (CY T s.ob c).v:=by
 simp only[CY,FQ,baT] at hok hl hh ⊢;cases hC:T c.f with
 | none=>rw[hC] at hok;simp[aS,bad] at hok
 | some C=>
  rw[hC] at hok hl hh;simp only[aS,FQ,baT,beq_iff_eq,Bool.or_eq_true] at hok hl hh ⊢;obtain⟨_,⟨hlen,⟨hsh,hbor⟩,hfl,hqok⟩,had⟩:=hok;have hS:=hT _ _ hC
  have hms:∀ j,C.modes.getD j .bor = .bor:=by
   intro j;simp only[List.all_eq_true,beq_iff_eq] at hbor;rw[gdE];cases hm:C.modes[j]? with
   | none=>rfl
   | some m=>exact hbor m (List.mem_of_getElem? hm)
  have hio:∀ k,k ∉ BW C.modes c.args:=by
   have gen:∀ (ms:List Md) (as:List AV),(∀ m,m∈ms->m = .bor)->BW ms as=[]:=by
    intro ms
    induction ms with
    | nil=>intro as _;rfl
    | cons m ms ih=>
     intro as hall;have:=hall m (by simp);subst this;cases as with
     | nil=>rfl
     | cons a as=>exact ih as fun m hm=>hall m (by simp[hm])
   simp only[List.all_eq_true,beq_iff_eq] at hbor;intro k hk;rw[gen _ _ hbor] at hk;simp at hk
  have hioe:BW C.modes c.args=[]:=List.eq_nil_iff_forall_not_mem.2 hio
  let Fc:Nat->Prop:=fun b=>AW F g s.ob b∧∀ k,(k∈BW C.modes c.args∨k∈EA C.modes c.args)->KW g s.ob k->g.β k≠b
  have hargs:=h.toFR.args (Fc:=Fc) (ms:=C.modes) hsz hv (by rw[hioe];rfl) (by rw[hioe];rfl) hlen hsh (fun b hb=>hb);have hhl:=Jg s.ob C.modes c.args hlen;obtain⟨hflat,hinv⟩:=hS.2 Fc (Ji g c.args) w (BU s.ob C.modes c.args) vals hsh (by rw[hsz,hhl]) (by rw[hhl];exact hargs) hqok;refine hinv.mono fun e w' he=>?_
  obtain⟨v,gb,obb,κ,rfl,B⟩:=he
  have hnone:∀ k,¬ KW (Ji g c.args) (BI 0 (BU s.ob C.modes c.args)) k:=by
   rintro k ⟨⟨hm,hg⟩,_⟩;obtain⟨j,k0,_,_,hne,_⟩:=AAZ hlen hsh hg;exact hne (hms j)
  refine⟨v,rfl,B.same.mono fun b _ ⟨k,hk,_⟩=>(hnone k hk).elim,?_⟩
  have hval:∃ S':Nat->Prop,RV S' w' gb obb κ v (C.F (BU s.ob C.modes c.args)).r∧(∀ b,AW F g s.ob b->S' b) ∧
    ∀ sz els,Ht (C.F (BU s.ob C.modes c.args)).r 0->Gk (Hk (C.F (BU s.ob C.modes c.args)).r 0)=some ⟨sz,els⟩->AK (κ 0) obb=some ⟨sz,els⟩->GL (AW F g s.ob) w' (gb.β (κ 0)) (gb.cap (κ 0)) sz els:=by
   rcases hfl with hfl|hfl
   ·exact⟨AW F g s.ob,pd (hflat hfl) B.val,fun _ c=>c,fun sz els h1 h2 h3=>dM (dL (hflat hfl) h1 h2) (B.home (κ 0) ⟨sz,els⟩ h3)⟩
   ·have hSS:∀ b,AW F g s.ob b->AW Fc gb obb b:=by
     refine fun b hb=>.inl ⟨hb,fun k hk _ _=>?_⟩
     have hbe:∀ (ms:List Md) (as:List AV),(∀ a,a∈as->a.keys=[])->EA ms as=[]:=by
      intro ms
      induction ms with
      | nil=>intro as _;cases as<;>rfl
      | cons m ms ih=>
       intro as hall;cases as with
       | nil=>cases m<;>rfl
       | cons a as=>
        have i1:=ih as fun a ha=>hall a (by simp[ha])
        cases m<;>simp[EA,i1,hall a (by simp)]
     simp only[List.all_eq_true,List.isEmpty_iff] at hfl;rcases hk with hk|hk
     ·exact hio k hk
     ·rw[hbe _ _ hfl] at hk;simp at hk
    exact⟨_,B.val,hSS,fun sz els _ _ h3=>(B.home (κ 0) ⟨sz,els⟩ h3).mono (AR.refl _ _) (fun _=>rfl) fun b _ hb=>hSS b hb⟩
  obtain⟨S',hval,hSS,hHome⟩:=hval;revert hval had hl hh hHome;generalize (C.F (BU s.ob C.modes c.args)).r=r;intro had hl hh hval hHome
  have blk:∀ {sz:Nat} {els:List AV},AK (κ 0) obb=some ⟨sz,els⟩->GL (AW F g s.ob) w' (gb.β (κ 0)) (gb.cap (κ 0)) sz els ->
    VR (AW F g s.ob) w' (.slice (some ⟨gb.β (κ 0),0,none⟩) els.length (gb.cap (κ 0))) (.sl sz els)∧(gb.cap (κ 0)=0->VR (AW F g s.ob) w' (.slice none 0 0) (.sl sz els)) ∧
    ∀ i off,i<els.length->VR (AW F g s.ob) w' (.pointer (some ⟨gb.β (κ 0),i*sz+off,none⟩)) (.ptr sz els i off):=by
   intro sz els ho hH;obtain⟨rr,hcell⟩:=hH.cell;refine hH.sl hcell (fun _ c=>c) fun hp c=>?_
   have hlt:=h.toFR.setLt c;rcases B.hio (κ 0) ⟨⟨_,ho⟩,hp⟩ with hge|⟨k',hk',_⟩
   ·omega
   ·exact hnone k' hk'
  cases r<;>simp[ak,adopt,DB,bad,ET] at had hl hh
  case fresh sz els=>
   obtain⟨q1,q2,_⟩:=blk hval.1 (hHome sz els ⟨rfl,rfl⟩ rfl hval.1);rcases hval.2 with e|⟨e0,e⟩
   ·rw[e];exact q1.toSR
   ·rw[e];exact (q2 e0).toSR
  case mem sz els ix=>
   obtain⟨_,_,q3⟩:=blk hval.1 (hHome sz els ⟨rfl,rfl⟩ rfl hval.1);obtain⟨_,hl1,e⟩:=hval;have:=q3 0 0 (by omega);rw[Nat.zero_mul,Nat.zero_add] at this;rw[e];exact this.toSR
  all_goals first
   | (simp[AV.lone] at hl;done)
   | exact (VR.mono (S':=AW F g s.ob) (AR.refl S' w') (fun b _ c=>hSS b c) hval).toSR
end
theorem nM{s:St}{k:Nat}{h:Option Hm}:(freezeH s k h).ok=s.ok:=by cases h<;>rfl
theorem Fs:∀ (ks:List Nat) (s:St),(freezeAll s ks).ok=s.ok
 | [],_=>rfl
 | k::r,s=>by simp only[freezeAll];rw[Fs r,nM]
theorem qF{s:St}{sz:Nat}{x p:AV}(h:(JK s sz x p).ok=true):s.ok=true:=by
 cases p<;>simp only[JK,fail] at h<;>try (cases h;done)
 rename_i k i off;cases ho:AK k s.ob with
 | none=>rw[ho] at h;simp[QF,fail] at h
 | some hm=>
  rw[ho] at h;simp only[QF,Qs,baT] at h;exact h.1
theorem AEU{s:St}{key:Nat}{D:Hv}{sz bytes:Nat}{y:Ap}{a:AV}(h:(Qi s key D sz bytes y a).ok=true):s.ok=true:=by
 cases a<;>simp only[Qi,fail] at h<;>try (cases h;done)
 case nilsl=>exact (GM h).1
 case own k=>
  cases ho:AK k s.ob with
  | none=>rw[ho] at h;simp[Uz,fail] at h
  | some hm=>rw[ho] at h;exact (RF h).1
theorem py{s:St}{D:Hv}{sz:Nat}{n:Int}{a:AV}(h:(JJ s D sz n a).ok=true):s.ok=true:=by
 cases a<;>simp only[JJ,fail] at h<;>try (cases h;done)
 rename_i k;cases ho:AK k s.ob with
 | none=>rw[ho] at h;simp[UH,fail] at h
 | some hm=>rw[ho] at h;exact (RF h).1
theorem IJ:∀ (ms:List Md) (as os:List AV) (s:St),(Ae s ms as os).ok=true->s.ok=true
 | [],[],[],s,h=>h
 | [],[],q::os,s,h=>by simp[Ae,fail] at h
 | [],a::as,os,s,h=>by simp[Ae,fail] at h
 | m::ms,[],os,s,h=>by cases m<;>simp[Ae,fail] at h
 | m::ms,a::as,[],s,h=>by cases m<;>cases a<;>simp[Ae,fail] at h
 | .bor::ms,a::as,q::os,s,h=>IJ ms as os s h
 | .io::ms,a::as,q::os,s,h=>by
  unfold Ae at h;split at h
  ·simp_all
  ·rename_i e1 e2 e3;simp only[List.cons.injEq] at e1 e2 e3;obtain⟨_,rfl⟩:=e1;obtain⟨_,rfl⟩:=e2;obtain⟨_,rfl⟩:=e3;have:=IJ _ _ _ _ h;exact this
  ·rename_i e1 e2 e3;simp only[List.cons.injEq] at e1 e2 e3;obtain⟨_,rfl⟩:=e1;obtain⟨_,rfl⟩:=e2;obtain⟨_,rfl⟩:=e3;have:=IJ _ _ _ _ h;exact this
  ·simp_all
  ·simp_all
  ·simp_all
  ·simp[fail] at h
 | .mov::ms,a::as,q::os,s,h=>by
  cases a<;>simp only[Ae,fail] at h<;>try (cases h;done)
  ·have:=IJ _ _ _ _ h;exact this
  ·have:=IJ _ _ _ _ h;exact this
theorem AAH{s:St}{key:Nat}{D:Hv}{as:List AV}{C:Option Ak}(h:(Lv s key D as C).ok=true):s.ok=true:=by
 cases C with
 | none=>simp[Lv,fail] at h
 | some C=>
  simp only[Lv,NB] at h;have h1:=IJ _ _ _ _ (GM h).1;unfold Qp at h1;rw[AO] at h1;split at h1
  ·exact h1
  ·rwa [Fs] at h1
theorem My{T:Il}{s:St}{key:Nat}{D:Hv}{c:Cal}(h:(Iu T s key D c).ok=true):s.ok=true∧c.ok=true:=by
 have:=AAH h;simpa using this
theorem AEF{T:Il}{s:St}{key:Nat}{D:Hv}{a:GR}(h:(CL T s key D a).ok=true):s.ok=true:=by
 cases a<;>simp only[CL] at h
 case callw=>cases h
 case store=>have:=qF h;rwa [Fs] at this
 case app=>exact AEU h
 case call=>exact (My h).1
 case callv=>exact (My h).1
 case box=>have:=(GM h).1;rwa [Fs] at this
 case build=>have:=(GM h).1;rwa [Fs] at this
 case mkSl=>have:=(GM h).1;rwa [Fs] at this
 case slice=>have:=(GM h).1;rwa [Fs] at this
 case movz=>have:=(GM h).1;rwa [Fs] at this
 case trunc=>exact py h
 all_goals exact (GM h).1
theorem fC{s:St}{w:Bool}{D:Hv}{m:Mk}(h:(ME s w D m).ok=true):s.ok=true∧(w=true->m.ok=true∧m.hs=[]∧m.v.lone=true):=by
 obtain⟨h1,h2⟩:=RF h;refine⟨h1,fun e=>?_⟩;subst e;simpa using h2
theorem jg{T:Il}{s:St}{key:Nat}{D:Hv}{w:Bool}{a:GR}(h:(Ke T s key D w a).ok=true):s.ok=true:=by
 unfold Ke at h;split at h
 ·unfold nH at h;split at h
  ·exact (My h).1
  ·exact (fC h).1
 ·exact (fC h).1
theorem kH{T:Il}{s:St}{i:Kw}(h:(Cp T s i).ok=true):s.ok=true:=by
 unfold Cp Uk at h;split at h
 ·exact AEF h
 ·have:=jg h;simp at this;exact this.1
theorem LC{T:Il}:∀ (is:List Kw) {s:St},(Ef T is s).ok=true->s.ok=true
 | [],_,h=>h
 | i::r,s,h=>kH (LC r h)
def iC(P:Program)(vm ss:List Nat)(D:Hv)(op:Op)(a:GR):Bool :=
 match a with
 | .store sz p x=>D == .no&&ni P vm ss sz p x op
 | .app sz bytes z a x=>AEN P vm ss sz bytes z a x op
 | .call f args=>Ox vm ss f args op
 | .callv f args=>Uy vm ss f args op
 | .callp f args=>Ox vm ss f args op
 | .pur (.call f args)=>Ox vm ss f args op
 | .pur (.callv f args)=>Uy vm ss f args op
 | .pur a=>Ar a&&MM P vm ss op a
 | .pick c a b=>eg vm ss c a b op
 | .flat a=>iC P vm ss D op a
 | .trunc sz x hi=>nh P vm ss sz x hi op
 | .movz x=>MM P vm ss op (.mov x)
 | .safe _ a=>iC P vm ss D op a
 | a=>MM P vm ss op a
section
variable {F Iow:Nat->Prop}{w0:World}{g0:Gh}{o0:CI}{g:Gh}{w w':World}{tmps:Array Value}{ds:List Deferred}{vm ss ss':List Nat}{s:St}{P:Program}{o:Oper}{key:Nat}{T:Il}{D:Hv}
 {K:Act->World->Prop} {Q:Exit->Act->World->Prop}
theorem JH(h:FR F g w tmps vm ss s){xs:Array Operand}{ys:List Src}(hc:OD vm ss xs.toList ys=true):(xs.map ({ tmps:=tmps,defers:=ds }:Act).eval).size=(ys.map (rd s)).length ∧
  ∀ j,j<(ys.map (rd s)).length->SR (AW F g s.ob) w g s.ob ((xs.map ({ tmps:=tmps,defers:=ds }:Act).eval).getD j undef) ((ys.map (rd s)).getD j .any):=by
 refine⟨by simpa using Ot hc,fun j hj=>?_⟩;have:=Ou (ds:=ds) h j hc (by simpa using hj);rw[← Dk,Array.toList_map];exact this
theorem Qh{S:Nat->Prop}{ob:CI}{v1 vals v2:Array Value}{a1 as a2:List AV}(n1:v1.size=a1.length)(n:vals.size=as.length)(n2:v2.size=a2.length)
  (h1:∀ j,j<a1.length->SR S w g ob (v1.getD j undef) (a1.getD j .any)) (h:∀ j,j<as.length->SR S w g ob (vals.getD j undef) (as.getD j .any)) (h2:∀ j,j<a2.length->SR S w g ob (v2.getD j undef) (a2.getD j .any)) :
  (v1++vals++v2).size=(a1++as++a2).length∧∀ j,j<(a1++as++a2).length->SR S w g ob ((v1++vals++v2).getD j undef) ((a1++as++a2).getD j .any):=by
 refine⟨by simp[n1,n,n2],fun j hj=>?_⟩;simp only[List.length_append] at hj;rw[ND,ND,Gy,Gy];simp only[Array.size_append,List.length_append,n1,n]
 by_cases c1:j<a1.length+as.length
 ·rw[if_pos c1,if_pos c1]
  by_cases c2:j<a1.length
  ·rw[if_pos c2,if_pos c2];exact h1 j c2
  ·rw[if_neg c2,if_neg c2];exact h _ (by omega)
 ·rw[if_neg c1,if_neg c1];exact h2 _ (by omega)
theorem Ov{args:List AV}{a:AV}(h:(Iq args a).ok=true):∃ f a1 a2,a = .fn (.func f) a1 a2∧Iq args a=⟨true,f,a1++args++a2⟩:=by
 unfold Iq at h ⊢;split
 ·exact⟨_,_,_,rfl,rfl⟩
 ·rename_i hne;split at h
  ·exact absurd rfl (hne _ _ _)
  ·cases h
theorem QG(h:FX F Iow w0 g0 o0 g w tmps vm ss s)(hnd:Ns vm)(hd:Dt vm ss o.dst D=some ss')(hfit:∀ d,o.dst=some d->d<tmps.size){m:Mk}(hp:BD (AW F g s.ob) w g s.ob key m ((execOp ({ tmps:=tmps,defers:=ds }:Act).eval o).run P w))
  (hK:∀ tmps' w' g',tmps'.size=tmps.size->FX F Iow w0 g0 o0 g' w' tmps' vm ss' (DA s key D m)->K ⟨tmps',ds⟩ w'):o.upon P ⟨tmps,ds⟩ K Q ((execOp ({ tmps:=tmps,defers:=ds }:Act).eval o).run P w):=by
 obtain⟨v,w',g',hr,hfx⟩:=h.still hnd hd hfit hp;rw[hr,Oper.upon_value,NN];exact hK _ _ _ (JA _ _ _) hfx
theorem pf{a:AV}(h:DE a=true)(ob:CI):a.dv ob=a:=by cases a<;>first|rfl|(cases h)
theorem Pp:∀ (ms:List Md) (as:List AV) (ob ob':CI),(∀ a,a∈as->DE a=true)->BU ob ms as=BU ob' ms as
 | [],_,_,_,_=>rfl
 | _::_,[],_,_,_=>rfl
 | m::ms,a::as,ob,ob',h=>by
  have h1:=h a (by simp);simp only[BU];rw[Pp ms as ob ob' fun x hx=>h x (by simp[hx])]
  congr 1
  cases m
  ·simp only[De];rw[pf h1,pf h1]
  ·cases a<;>first|rfl|(cases h1)
  ·cases a<;>first|rfl|(cases h1)
theorem nf{T:Il}{f:Nat}{as:List AV}{ob ob':CI}(h:∀ a,a∈as->DE a=true):CY T ob ⟨true,f,as⟩=CY T ob' ⟨true,f,as⟩:=by
 simp only[CY];cases T f with
 | none=>rfl
 | some C=>simp only[aS];rw[Pp C.modes as ob ob' h]
theorem zo{b:Bool}{m:Mk}(h:(Ls b m).ok=true):b=true∧Ls b m=m:=by
 unfold Ls at h ⊢;rw[AO] at h ⊢;split at h
 ·rename_i hb;simp only[baT,List.isEmpty_iff] at hb;rw[if_pos (by simp[hb.1,hb.2.1,hb.2.2])];refine⟨hb.1,?_⟩;cases m
  simp only at hb ⊢;rw[hb.2.1]
 ·cases h
theorem tq{T:Il}{s:St}{key:Nat}{D:Hv}{a:GR}(hok:(CL T s key D (.flat a)).ok=true):CL T s key D (.flat a)=CL T s key D a:=by
 simp only[CL] at hok ⊢;obtain⟨_,hm⟩:=GM hok;obtain⟨hb,he⟩:=zo hm;rw[he] at hm ⊢;have hs:∀ x,x∈EM a->DE (rd s x)=true:=fun x hx=>List.all_eq_true.1 hb x hx
 cases a<;>simp only[IF] at hm ⊢<;>(try (cases hm;done))
 case callp f args=>
  rw[nf (ob':=s.ob) fun y hy=>by
   obtain⟨x,hx,rfl⟩:=List.mem_map.1 hy;exact hs x hx]
 case pur b=>
  cases b<;>simp only[IF] at hm ⊢<;>(try (cases hm;done))
  rfl
 case len st x=>
  have h1:=hs x (by simp[EM,BG])
  have e:AU (rd s) [] key (.len st x)=AU (rd s) s.ob key (.len st x):=by
   simp only[AU];revert h1;generalize rd s x=y;intro h1;cases y<;>first|rfl|(cases h1)
  show DA s key D (AU (rd s) [] key (.len st x))=DA s key D (AU (rd s) s.ob key (.len st x));rw[e]
 all_goals rfl
theorem ol{T:Il}{s:St}{key:Nat}{a:GR}:Ib T s key a=OL T (rd s) s.ob key a:=by cases a<;>rfl
theorem zr{ob ob':CI}{a:AV}(h:∀ k,k∈a.key1->AK k ob=AK k ob'):a.dv1 ob=a.dv1 ob':=by
 cases a<;>(try rfl)
 ·rename_i k;simp only[AV.dv1];rw[h k (by simp[AV.key1])]
 ·rename_i k i off;simp only[AV.dv1];rw[h k (by simp[AV.key1])]
theorem ANw{ob ob':CI}{a:AV}(h:∀ k,k∈a.keys->AK k ob=AK k ob'):a.dv ob=a.dv ob':=by
 cases a<;>(try rfl)
 ·rename_i f fi ca;simp only[AV.keys,List.mem_flatMap,List.mem_append] at h;simp only[AV.dv];rw[List.map_congr_left (l:=fi) (g:=AV.dv1 ob') fun x hx=>zr fun k hk=>h k ⟨x,.inl hx,hk⟩,List.map_congr_left (l:=ca) (g:=AV.dv1 ob') fun x hx=>zr fun k hk=>h k ⟨x,.inr hx,hk⟩]
 ·rename_i k;simp only[AV.dv];rw[h k (by simp[AV.keys])]
 ·rename_i k i off;simp only[AV.dv];rw[h k (by simp[AV.keys])]
theorem jd{ob ob':CI}{a:AV}(h:∀ k,k∈a.keys->AK k ob=AK k ob'):JC ob a=JC ob' a:=by
 cases a<;>(try rfl)
 ·rename_i k;simp only[JC];rw[h k (by simp[AV.keys])]
 ·rename_i k i off;cases off<;>(try rfl)
  simp only[JC];rw[h k (by simp[AV.keys])]
theorem VU:∀ (ms:List Md) (as:List AV) {ob ob':CI},(∀ a,a∈as->∀ k,k∈a.keys->AK k ob=AK k ob')->BU ob ms as=BU ob' ms as
 | [],_,_,_,_=>rfl
 | _::_,[],_,_,_=>rfl
 | m::ms,a::as,ob,ob',h=>by
  simp only[BU];rw[VU ms as fun x hx=>h x (by simp[hx])]
  congr 1
  cases m
  ·exact ANw (h a (by simp))
  ·exact jd (h a (by simp))
  ·exact jd (h a (by simp))
theorem kT{T:Il}{f:Nat}{as:List AV}{ob ob':CI}(h:∀ a,a∈as->∀ k,k∈a.keys->AK k ob=AK k ob'):CY T ob ⟨true,f,as⟩=CY T ob' ⟨true,f,as⟩:=by
 simp only[CY];cases T f with
 | none=>rfl
 | some C=>simp only[aS];rw[VU C.modes as h]
theorem iU{r:Src->AV}{ob ob':CI}{key:Nat}{a:GR}(h:∀ x,x∈BG a->∀ k,k∈(r x).keys->AK k ob=AK k ob'):AU r ob key a=AU r ob' key a:=by
 cases a<;>(try rfl)
 case load agg sz p=>
  have h1:=h p (by simp[BG]);simp only[AU];revert h1;generalize r p=y;intro h1;cases y<;>(try rfl)
  rename_i k i off;simp only[Lq];rw[h1 k (by simp[AV.keys])]
 case b2s x=>
  have h1:=h x (by simp[BG]);simp only[AU];revert h1;generalize r x=y;intro h1;cases y<;>(try rfl)
  rename_i k;simp only[Vy];rw[h1 k (by simp[AV.keys])]
 case ixAddr sz x i=>
  have h1:=h x (by simp[BG]);simp only[AU];revert h1;generalize r x=y;intro h1;cases y<;>(try rfl)
  rename_i k;simp only[JY];rw[h1 k (by simp[AV.keys])]
 case len st x=>
  have h1:=h x (by simp[BG]);simp only[AU];revert h1;generalize r x=y;intro h1;cases y<;>(try rfl)
  rename_i k;simp only[Vp];rw[h1 k (by simp[AV.keys])]
theorem wJ{T:Il}{r:Src->AV}{ob ob':CI}{key:Nat}{a:GR}(h:∀ x,x∈DZ a->∀ k,k∈(r x).keys->AK k ob=AK k ob'):Ia T r ob key a=Ia T r ob' key a:=by
 have hm:∀ l:List Src,(∀ x,x∈l->x∈DZ a)->∀ y,y∈l.map r->∀ k,k∈y.keys->AK k ob=AK k ob':=fun l hl y hy=>by
  obtain⟨x,hx,rfl⟩:=List.mem_map.1 hy;exact h x (hl x hx)
 cases a<;>(try rfl)
 case callp f args=>simp only[Ia];rw[kT (hm args fun x hx=>hx)]
 case pur b=>
  have h':∀ x,x∈BG b->∀ k,k∈(r x).keys->AK k ob=AK k ob':=h;clear h;cases b
  case callv=>rfl
  case call f args=>simp only[Ia,OL];rw[kT (hm args fun x hx=>hx)]
  all_goals
   simp only[Ia,OL];rw[iU h']
 all_goals
  simp only[Ia];rw[iU (by simpa only[DZ] using h)]
theorem RO{d k:Nat}(hk:k/32≠d):∀ ob:CI,AK k (Dm d ob)=AK k ob
 | []=>rfl
 | p::r=>by
  have ih:=RO hk r
  by_cases c:p.1/32=d
  ·have hne:(p.1==k)=false:=by rw[beq_eq_false_iff_ne];intro e;exact hk (by rw[← e];exact c)
   simp only[Dm,AK,c,beq_self_eq_true,cond_true,hne,cond_false,ih]
  ·have:(p.1/32==d)=false:=by simpa using c
   simp only[Dm,AK,this,cond_false,ih]
theorem RN{k:Nat}:∀ (ds:List Nat) (ob:CI),(∀ d,d∈ds->k/32≠d)->AK k (Jy ds ob)=AK k ob
 | [],_,_=>rfl
 | d::ds,ob,h=>by
  simp only[Jy];rw[RN ds _ fun e he=>h e (by simp[he]),RO (h d (by simp))]
theorem jC{ds:List Nat}{a:AV}(h:NP ds a=true){k:Nat}(hk:k∈a.keys):∀ d,d∈ds->k/32≠d:=by
 intro d hd e;simp only[NP,baT,Bool.not_eq_true',List.any_eq_false] at h;have:=h.2 k hk;apply this;rw[List.any_eq_true];exact⟨d,hd,by simpa using e.symm⟩
theorem wI{b:Bool}{ds:List Nat}{m:Mk}(h:(Yd b ds m).ok=true):b=true∧m.hs=[]∧Yd b ds m=m:=by
 unfold Yd at h ⊢;rw[AO] at h ⊢;split at h
 ·rename_i hc;simp only[baT,List.isEmpty_iff] at hc;refine⟨hc.1,hc.2.1,?_⟩;rw[if_pos (by simp[hc.1,hc.2.1,hc.2.2])];obtain⟨a,b,c⟩:=m;obtain⟨_,rfl,_⟩:=hc;rfl
 ·cases h
theorem qI{T:Il}{s:St}{key:Nat}{D:Hv}{ks:List Nat}{a:GR}(hok:(CL T s key D (.safe ks a)).ok=true):CL T s key D (.safe ks a)=CL T s key D a:=by
 simp only[CL] at hok ⊢;obtain⟨_,hm⟩:=GM hok;unfold Jm at hm ⊢;obtain⟨hb,-,he⟩:=wI hm;rw[he] at hm ⊢
 have hs:∀ x,x∈DZ a->∀ k,k∈(rd s x).keys->AK k (Jy ks s.ob)=AK k s.ob:=fun x hx k hk=>
  RN ks _ (jC (List.all_eq_true.1 hb x hx) hk)
 rw[wJ hs] at hm ⊢;cases a
 case pur b=>
  cases b
  case callv=>simp[Ia,bad] at hm
  all_goals
   simp only[Ia,CL,ol]
 case pick=>rfl
 case callp=>rfl
 all_goals first
  | rfl
  | (simp[Ia,Ec,bad] at hm;done)
theorem fH(hT:Ix P T)(h:FX F Iow w0 g0 o0 g w tmps vm ss s)(hnd:Ns vm)(hd:Dt vm ss o.dst D=some ss')(hfit:∀ d,o.dst=some d->d<tmps.size){a:GR}(hc:iC P vm ss D o.op a=true)(hok:(CL T s key D a).ok=true)
  (hK:∀ tmps' w' g',tmps'.size=tmps.size->FX F Iow w0 g0 o0 g' w' tmps' vm ss' (CL T s key D a)->K ⟨tmps',ds⟩ w'):o.upon P ⟨tmps,ds⟩ K Q ((execOp ({ tmps:=tmps,defers:=ds }:Act).eval o).run P w):=by
 have still:∀ {a:GR},MM P vm ss o.op a=true->(DA s key D (AU (rd s) s.ob key a)).ok=true->(∀ tmps' w' g',tmps'.size=tmps.size->FX F Iow w0 g0 o0 g' w' tmps' vm ss' (DA s key D (AU (rd s) s.ob key a))->K ⟨tmps',ds⟩ w') ->
   o.upon P ⟨tmps,ds⟩ K Q ((execOp ({ tmps:=tmps,defers:=ds }:Act).eval o).run P w):=fun hc hok hK=>
  QG h hnd hd hfit (Qt (ds:=ds) (key:=key) h.toFR hc (GM hok).2) hK
 have frozen:∀ {a:GR} (ks:List Nat),MM P vm ss o.op a=true->(DA (freezeAll s ks) key D (AU (rd (freezeAll s ks)) (freezeAll s ks).ob key a)).ok=true ->
   (∀ tmps' w' g',tmps'.size=tmps.size->FX F Iow w0 g0 o0 g' w' tmps' vm ss' (DA (freezeAll s ks) key D (AU (rd (freezeAll s ks)) (freezeAll s ks).ob key a))->K ⟨tmps',ds⟩ w') ->
   o.upon P ⟨tmps,ds⟩ K Q ((execOp ({ tmps:=tmps,defers:=ds }:Act).eval o).run P w):=fun ks hc hok hK=>
  QG (h.freezeAll ks) hnd hd hfit (Qt (ds:=ds) (key:=key) (h.freezeAll ks).toFR hc (GM hok).2) hK
 cases a
 case store sz p x=>
  simp only[iC,baT,beq_iff_eq] at hc;obtain⟨rfl,hc⟩:=hc;simp only[CL] at hok hK;obtain⟨w',hr,hfx⟩:=(h.freezeAll (rd s x).keys).store (ds:=ds) hc hok;rw[hr,Oper.upon_skip,NN]
  have hdn:o.dst=none∧ss'=ss:=by
   revert hd;cases o.dst with
   | none=>intro hd;exact⟨rfl,by simpa[Dt] using hd.symm⟩
   | some d=>intro hd;simp[Dt] at hd
  rw[hdn.1];rw[hdn.2] at hK;exact hK _ _ _ rfl hfx
 case app sz bytes z a x=>
  simp only[iC] at hc;simp only[CL] at hok hK;obtain⟨v,w',g',hr,hfx⟩:=h.app (ds:=ds) hnd hd hfit hc hok;rw[hr,Oper.upon_value,NN];exact hK _ _ _ (JA _ _ _) hfx
 case call f args=>
  simp only[iC] at hc;simp only[CL] at hok hK;unfold Ox at hc;split at hc
  ·rename_i f' xs tys he;simp only[baT,beq_iff_eq] at hc;obtain⟨rfl,hc⟩:=hc;obtain⟨e1,e2⟩:=JH (ds:=ds) h.toFR hc;have hcr:=IG (P:=P) (w:=w) (o:=o) (ρ:=({ tmps:=tmps,defers:=ds }:Act).eval) (f:=f') (v1:=#[]) (v2:=#[]) rfl he;rw[Array.empty_append,Array.append_empty] at hcr;rw[hcr];exact UM hT h hnd hd hfit e1 e2 hok hK
  ·cases hc
 case callp f args=>
  simp only[iC] at hc;simp only[CL] at hok hK;obtain⟨hsok,hm⟩:=GM hok;simp only[JB,baT,List.isEmpty_iff] at hm;unfold Ox at hc;split at hc
  ·rename_i f' xs tys he;simp only[baT,beq_iff_eq] at hc;obtain⟨rfl,hc⟩:=hc;obtain⟨e1,e2⟩:=JH (ds:=ds) h.toFR hc;have hcr:=IG (P:=P) (w:=w) (o:=o) (ρ:=({ tmps:=tmps,defers:=ds }:Act).eval) (f:=f') (v1:=#[]) (v2:=#[]) rfl he;rw[Array.empty_append,Array.append_empty] at hcr;rw[hcr];have:=LG (s:=s) (c:=⟨true,f',args.map (rd s)⟩) hT h e1 e2 hm.1 hm.2.2 hm.2.1;refine II this (fun v w' hR=>?_) (fun c w' hR=>?_) (fun w' hR=>?_)
   ·obtain⟨v',e,hw,hv⟩:=hR;cases e
    rw[NN];refine hK _ _ g (JA _ _ _) ?_;have h1:=(h.toFR.grow hw).put hnd hd hfit (JB (CY T s.ob ⟨true,f',args.map (rd s)⟩)).ok (v:=v) (a:=(CY T s.ob ⟨true,f',args.map (rd s)⟩).v) (fun _=>hv);have hob:(DA s key D (JB (CY T s.ob ⟨true,f',args.map (rd s)⟩))).ob=s.ob:=by cases D<;>rfl
    exact FX.mk' (w:=w) h1 h.same (hw.mono fun _ _ c=>c.elim) (fun k hk=>h.hio k (by rw[hob] at hk;exact hk)) h.fio (by rw[hob];exact h.par)
   ·obtain⟨v',e,_⟩:=hR;cases e
   ·obtain⟨v',e,_⟩:=hR;cases e
  ·cases hc
 case callv f args=>
  simp only[iC] at hc;simp only[CL] at hok hK;unfold Uy at hc;split at hc
  ·rename_i y xs tys he;simp only[baT] at hc;obtain⟨hcf,hc⟩:=hc;obtain⟨e1,e2⟩:=JH (ds:=ds) h.toFR hc;have hvf:=h.toFR.src (ds:=ds) hcf;obtain⟨fid,a1,a2,ea,ecal⟩:=Ov (My hok).2;rw[ea] at hvf;obtain⟨v1,v2,ev,n1,n2,h1,h2⟩:=hvf;rw[IG (P:=P) (w:=w) (ρ:=({ tmps:=tmps,defers:=ds }:Act).eval) ev he];rw[ecal] at hok hK;obtain⟨q1,q2⟩:=Qh (w:=w) (g:=g) n1 e1 n2 (fun j hj=>(h1 j hj).toSR) e2 (fun j hj=>(h2 j hj).toSR);exact UM hT h hnd hd hfit (c:=⟨true,fid,a1++args.map (rd s)++a2⟩) q1 q2 hok hK
  ·cases hc
 case pick c a b=>
  simp only[iC] at hc;simp only[CL] at hok hK
  have hcv:SR (AW F g s.ob) w g s.ob (({ tmps:=tmps,defers:=ds }:Act).eval (match o.op with | .pick x _ _=>x|_=>.const undef)) (rd s c):=by
   unfold eg at hc;split at hc
   ·rename_i x y z he;simp only[baT] at hc;try rw[he]
    exact h.toFR.src hc.1
   ·cases hc
  exact QG h hnd hd hfit (wK (ds:=ds) (key:=key) h.toFR hc hcv (GM hok).2) hK
 case pur a=>
  simp only[CL] at hok hK;obtain⟨hsok,hm⟩:=GM hok
  have fin:∀ (v:Value) (w':World),(Ib T s key a).hs=[]->AR (fun _=>False) w w'->SR (AW F g s.ob) w' g s.ob v (Ib T s key a).v->K (({ tmps:=tmps,defers:=ds }:Act).put o.dst v) w':=by
   intro v w' hh hw hv;rw[NN];refine hK _ _ g (JA _ _ _) ?_;have h1:=(h.toFR.grow hw).put hnd hd hfit (Ib T s key a).ok (v:=v) (a:=(Ib T s key a).v) (fun _=>hv);have e:DA s key D (Ib T s key a)=Ay s (Ib T s key a).ok (Ib T s key a).v D:=by unfold DA;rw[hh];rfl
   have hob:(Ay s (Ib T s key a).ok (Ib T s key a).v D).ob=s.ob:=by cases D<;>rfl
   rw[e];exact FX.mk' (w:=w) h1 h.same (hw.mono fun _ _ c=>c.elim) (fun k hk=>h.hio k (by rw[hob] at hk;exact hk)) h.fio (by rw[hob];exact h.par)
  have still2:Ar a=true->MM P vm ss o.op a=true->Ib T s key a=JB (Pj (AU (rd s) s.ob key a))->o.upon P ⟨tmps,ds⟩ K Q ((execOp ({ tmps:=tmps,defers:=ds }:Act).eval o).run P w):=by
   intro hg hc he;rw[he] at hm fin;simp only[JB,baT] at hm fin;obtain⟨v,w',hr,hw,hv⟩:=BD.frz h.toFR (Qt (ds:=ds) (key:=key) h.toFR hc hm.1);rw[hr,Oper.upon_value];exact fin v w' trivial hw hv
  cases a
  case call f args=>
   simp only[iC] at hc;simp only[Ib,JB,baT,List.isEmpty_iff] at hm fin;unfold Ox at hc;split at hc
   ·rename_i f' xs tys he;simp only[baT,beq_iff_eq] at hc;obtain⟨rfl,hc⟩:=hc;obtain⟨e1,e2⟩:=JH (ds:=ds) h.toFR hc;have hcr:=IG (P:=P) (w:=w) (o:=o) (ρ:=({ tmps:=tmps,defers:=ds }:Act).eval) (f:=f') (v1:=#[]) (v2:=#[]) rfl he;rw[Array.empty_append,Array.append_empty] at hcr;rw[hcr];have:=LG (s:=s) (c:=⟨true,f',args.map (rd s)⟩) hT h e1 e2 hm.1 hm.2.2 hm.2.1;refine II this (fun v w' hR=>?_) (fun c w' hR=>?_) (fun w' hR=>?_)
    ·obtain⟨v',e,hw,hv⟩:=hR;cases e;exact fin _ _ trivial hw hv
    ·obtain⟨v',e,_⟩:=hR;cases e
    ·obtain⟨v',e,_⟩:=hR;cases e
   ·cases hc
  case callv f args=>
   simp only[iC] at hc;simp only[Ib,JB,baT,List.isEmpty_iff] at hm fin;unfold Uy at hc;split at hc
   ·rename_i y xs tys he;simp only[baT] at hc;obtain⟨hcf,hc⟩:=hc;obtain⟨e1,e2⟩:=JH (ds:=ds) h.toFR hc;have hvf:=h.toFR.src (ds:=ds) hcf
    have hcok:(Iq (args.map (rd s)) (rd s f)).ok=true:=by
     have:=hm.1;simp only[CY,FQ,baT] at this;exact this.1
    obtain⟨fid,a1,a2,ea,ecal⟩:=Ov hcok;rw[ea] at hvf;obtain⟨v1,v2,ev,n1,n2,h1,h2⟩:=hvf;rw[IG (P:=P) (w:=w) (ρ:=({ tmps:=tmps,defers:=ds }:Act).eval) ev he];rw[ecal] at hm fin;obtain⟨q1,q2⟩:=Qh (w:=w) (g:=g) n1 e1 n2 (fun j hj=>(h1 j hj).toSR) e2 (fun j hj=>(h2 j hj).toSR);have:=LG (s:=s) (c:=⟨true,fid,a1++args.map (rd s)++a2⟩) hT h q1 q2 hm.1 hm.2.2 hm.2.1;refine II this (fun v w' hR=>?_) (fun c w' hR=>?_) (fun w' hR=>?_)
    ·obtain⟨v',e,hw,hv⟩:=hR;cases e;exact fin _ _ trivial hw hv
    ·obtain⟨v',e,_⟩:=hR;cases e
    ·obtain⟨v',e,_⟩:=hR;cases e
   ·cases hc
  all_goals
   simp only[iC,baT] at hc;first
   | exact still2 hc.1 hc.2 rfl
   | exact absurd hc.1 Bool.false_ne_true
 case callw f args=>simp[CL,fail] at hok
 case flat b=>
  have e:=tq hok;rw[e] at hok hK;exact fH hT h hnd hd hfit (by simpa only[iC] using hc) hok hK
 case trunc sz x hi=>
  simp only[iC] at hc;simp only[CL] at hok hK;obtain⟨v,w',g',hr,hfx⟩:=h.trunc (ds:=ds) hnd hd hfit hc hok;rw[hr,Oper.upon_value,NN];exact hK _ _ _ (JA _ _ _) hfx
 case movz x=>exact frozen (rd s x).keys (a:=.mov x) (by simpa only[iC] using hc) hok hK
 case safe ks b=>
  have e:=qI hok;rw[e] at hok hK;exact fH hT h hnd hd hfit (by simpa only[iC] using hc) hok hK
 case box x=>exact frozen (rd s x).keys (a:=.box x) hc hok hK
 case build z ps=>exact frozen _ (a:=.build z ps) hc hok hK
 case mkSl sz z n ps=>exact frozen _ (a:=.mkSl sz z n ps) hc hok hK
 case slice sz x lo hi=>exact frozen _ (a:=.slice sz x lo hi) hc hok hK
 all_goals
  simp only[iC] at hc;simp only[CL] at hok hK;exact still hc hok hK
end
def cG(P:Program)(vm ss:List Nat)(op:Op)(a:GR):Bool:=Ar a&&MM P vm ss op a
def AAJ(P:Program)(vm ss:List Nat)(op:Op)(a:GR):Bool :=
 match a with
 | .call f args=>Ox vm ss f args op
 | .callv f args=>Uy vm ss f args op
 | .callw f args=>Ox vm ss f args op
 | .pick c a b=>eg vm ss c a b op
 | a=>cG P vm ss op a
def gc(ops:Array Oper)(vm ss:List Nat):Option (Nat×Bool)->Option (Src×Bool)->Bool
 | none,none=>true
 | some (j,w),some (x,w')=>w==w'&&(match (ops[j]?).bind (·.dst) with
  | some t=>BL vm ss (.tmp t) x
  | none=>false)
 | _,_=>false
def pg(n:Nat):Option Nat->Bool
 | some d=>decide (d<n)
 | none=>true
def gV(P:Program)(n:Nat)(ops:Array Oper)(vm ss:List Nat)(o:Oper)(i:Kw):Option (List Nat) :=
 bif pg n o.dst&&(gc ops vm ss o.guard i.guard&&(match i.guard with
  | none=>iC P vm ss i.dst o.op i.op
  | some _=>AAJ P vm ss o.op i.op)) then Dt vm ss o.dst i.dst else none
def Lu(P:Program)(n:Nat)(ops:Array Oper)(vm:List Nat):List Nat->List Oper->List Kw->Option (List Nat)
 | ss,[],[]=>some ss
 | ss,o::os,i::is=>match gV P n ops vm ss o i with
  | some ss'=>Lu P n ops vm ss' os is
  | none=>none
 | _,_,_=>none
section
variable {F Iow:Nat->Prop}{w0:World}{g0:Gh}{o0:CI}{g:Gh}{w w':World}{tmps:Array Value}{ds:List Deferred}{vm ss ss':List Nat}{s:St}{P:Program}{o:Oper}{key:Nat}{T:Il}{D:Hv}
 {K:Act->World->Prop} {Q:Exit->Act->World->Prop} {ops:Array Oper} {n:Nat} {i:Kw}
theorem tf(h:FR F g w tmps vm ss s){j t:Nat}{x:Src}(hd:(ops[j]?).bind (·.dst)=some t)(hc:BL vm ss (.tmp t) x=true)(hok:Ok (rd s x)=true)(want:Bool):
  (yielded ops tmps j==some want)=jm want (rd s x):=by
 have hv:=h.src (ds:=[]) hc
 have hfit:t<tmps.size:=by
  have hm:∀ {l:List Nat} {m:Nat},l[m]? = some t->t∈l:=fun h=>List.mem_of_getElem? h
  cases x with
  | v m=>simp only[BL,beq_iff_eq] at hc;exact h.fit t (.inl (hm hc))
  | s m=>simp only[BL,beq_iff_eq] at hc;exact h.fit t (.inr (hm hc))
  | c a=>simp[BL] at hc
 have he:tmps[t]? = some (({ tmps:=tmps,defers:=[] }:Act).eval (.tmp t)):=by
  simp[Act.eval,agD,Array.getElem?_eq_getElem hfit]
 have hy:yielded ops tmps j=match ({ tmps:=tmps,defers:=[] }:Act).eval (.tmp t) with | .bool b=>some b|_=>none:=by
  unfold yielded;rw[hd];simp only[obS,he];cases (({ tmps:=tmps,defers:=[] }:Act).eval (.tmp t))<;>rfl
 rw[hy];revert hok;generalize rd s x=a at hv;intro hok;cases a<;>simp only[Ok] at hok<;>try (cases hok;done)
 case bool b=>rw[Lj hv];cases b<;>cases want<;>rfl
 case opt c a=>
  cases c
  ·simp only[SR,bfT,if_false] at hv;rw[hv];cases want<;>rfl
  ·simp only[Bool.not_true,Bool.false_or] at hok;cases a<;>simp only[WK] at hok<;>try (cases hok;done)
   rename_i b;simp only[SR,if_true] at hv;have:=Lj (ob:=s.ob) (g:=g) (hv.toSR);rw[this];cases want<;>cases b<;>rfl
theorem wo(hT:Ix P T)(h:FX F Iow w0 g0 o0 g w tmps vm ss s)(hnd:Ns vm)(hd:Dt vm ss o.dst D=some ss')(hfit:∀ d,o.dst=some d->d<tmps.size){a:GR}(hc:AAJ P vm ss o.op a=true)(hnw:∀ f l,a ≠ .callw f l)(hok:(ME s true D (Cx T s true key a)).ok=true)
  (hK:∀ tmps' w' g',tmps'.size=tmps.size->FX F Iow w0 g0 o0 g' w' tmps' vm ss' (ME s true D (Cx T s true key a))->K ⟨tmps',ds⟩ w'):o.upon P ⟨tmps,ds⟩ K Q ((execOp ({ tmps:=tmps,defers:=ds }:Act).eval o).run P w):=by
 obtain⟨_,hm⟩:=fC hok;obtain⟨hmok,hmhs,hml⟩:=hm rfl
 have fin:∀ (v:Value) (w':World),AR (fun _=>False) w w'->SR (AW F g s.ob) w' g s.ob v (Cx T s true key a).v->K (({ tmps:=tmps,defers:=ds }:Act).put o.dst v) w':=by
  intro v w' hw hv;rw[NN];exact hK _ _ _ (JA _ _ _) (h.guardPut hnd hd hfit hw (fun _ _=>hv) hok)
 have hu:=h.toFR.unS
 have ret:∀ {m:Mk},m.hs=[]->BD (AW F g s.ob) w g s.ob key m ((execOp ({ tmps:=tmps,defers:=ds }:Act).eval o).run P w)->m.v=(Cx T s true key a).v->o.upon P ⟨tmps,ds⟩ K Q ((execOp ({ tmps:=tmps,defers:=ds }:Act).eval o).run P w):=by
  intro m hh hp hv;obtain⟨v,w',hr,hw,hcase⟩:=hp;rw[hr,Oper.upon_value];rcases hcase with⟨_,hs⟩|⟨k,h',b,cap,e,_⟩
  ·exact fin v w' hw (hv▸hs)
  ·rw[hh] at e;cases e
 have retF:∀ {m:Mk},BD (AW F g s.ob) w g s.ob key m ((execOp ({ tmps:=tmps,defers:=ds }:Act).eval o).run P w)->(Pj m).v=(Cx T s true key a).v->o.upon P ⟨tmps,ds⟩ K Q ((execOp ({ tmps:=tmps,defers:=ds }:Act).eval o).run P w):=by
  intro m hp hv;obtain⟨v,w',hr,hw,hs⟩:=BD.frz h.toFR hp;rw[hr,Oper.upon_value];exact fin v w' hw (hv▸hs)
 have still:Ar a=true->MM P vm ss o.op a=true->Cx T s true key a=FQ (Ar a&&(BG a).all fun x=>Ch true (rd s x)) (Pj (AU (UF s) s.ob key a))->o.upon P ⟨tmps,ds⟩ K Q ((execOp ({ tmps:=tmps,defers:=ds }:Act).eval o).run P w):=by
  intro hg hc he;rw[he] at hmok hmhs;simp only[FQ,baT,List.all_eq_true] at hmok hmhs;obtain⟨⟨_,hall⟩,hsok⟩:=hmok;have hcg:AU (UF s) s.ob key a=AU (rd (unS s)) s.ob key a:=Fz hg fun x hx=>(Ym (hall x hx)).symm
  rw[hcg] at hsok;exact retF (m:=AU (rd (unS s)) s.ob key a) (Qt (ds:=ds) (key:=key) hu hc hsok) (by rw[he,hcg];rfl)
 have optall:∀ {as:List Src},(as.all fun x=>Ch true (rd s x))=true->as.map (UF s)=as.map (rd (unS s)):=fun hall=>by
  simp only[List.all_eq_true] at hall;exact List.map_congr_left fun x hx=>(Ym (hall x hx)).symm
 cases a
 case pick c x y=>
  simp only[AAJ] at hc;simp only[Cx,FQ,baT] at hmok hmhs
  have hcv:SR (AW F g s.ob) w g s.ob (({ tmps:=tmps,defers:=ds }:Act).eval (match o.op with | .pick x _ _=>x|_=>.const undef)) (UF s c):=by
   rw[← Ym hmok.1];unfold eg at hc;split at hc
   ·rename_i p q z he;simp only[baT] at hc;try rw[he]
    exact hu.src hc.1
   ·cases hc
  exact ret (m:=LL true (rd s x) (rd s y) (UF s c)) hmhs (wK (ds:=ds) (key:=key) h.toFR hc hcv hmok.2) rfl
 case call f args=>
  simp only[AAJ] at hc;simp only[Cx,FQ,baT] at hmok hmhs hml fin;unfold Ox at hc;split at hc
  ·rename_i f' xs tys he;simp only[baT,beq_iff_eq] at hc;obtain⟨rfl,hc⟩:=hc;rw[optall (by simpa[BG] using hmok.1)] at hmok hmhs hml fin;obtain⟨e1,e2⟩:=JH (ds:=ds) hu hc;have hcr:=IG (P:=P) (w:=w) (o:=o) (ρ:=({ tmps:=tmps,defers:=ds }:Act).eval) (f:=f') (v1:=#[]) (v2:=#[]) rfl he;rw[Array.empty_append,Array.append_empty] at hcr;rw[hcr];have:=LG (s:=unS s) (c:=⟨true,f',args.map (rd (unS s))⟩) hT h.unS e1 e2 hmok.2 hml hmhs;refine II this (fun v w' hR=>?_) (fun c w' hR=>?_) (fun w' hR=>?_)
   ·obtain⟨v',e,hw,hv⟩:=hR;cases e;exact fin _ _ hw hv
   ·obtain⟨v',e,_⟩:=hR;cases e
   ·obtain⟨v',e,_⟩:=hR;cases e
  ·cases hc
 case callv f args=>
  simp only[AAJ] at hc;simp only[Cx,FQ,baT] at hmok hmhs hml fin;unfold Uy at hc;split at hc
  ·rename_i y xs tys he;simp only[baT] at hc;obtain⟨hcf,hc⟩:=hc
   have hall:Ch true (rd s f)=true∧(args.all fun x=>Ch true (rd s x))=true:=by
    simpa[BG] using hmok.1
   rw[optall hall.2,← Ym hall.1] at hmok hmhs hml fin;obtain⟨e1,e2⟩:=JH (ds:=ds) hu hc;have hvf:=hu.src (ds:=ds) hcf
   have hcok:(Iq (args.map (rd (unS s))) (rd (unS s) f)).ok=true:=by
    have:=hmok.2;simp only[CY,FQ,baT] at this;exact this.1
   obtain⟨fid,a1,a2,ea,ecal⟩:=Ov hcok;rw[ea] at hvf;obtain⟨v1,v2,ev,n1,n2,h1,h2⟩:=hvf;rw[IG (P:=P) (w:=w) (ρ:=({ tmps:=tmps,defers:=ds }:Act).eval) ev he];rw[ecal] at hmok hmhs hml fin;obtain⟨q1,q2⟩:=Qh (w:=w) (g:=g) n1 e1 n2 (fun j hj=>(h1 j hj).toSR) e2 (fun j hj=>(h2 j hj).toSR);have:=LG (s:=unS s) (c:=⟨true,fid,a1++args.map (rd (unS s))++a2⟩) hT h.unS q1 q2 hmok.2 hml hmhs;refine II this (fun v w' hR=>?_) (fun c w' hR=>?_) (fun w' hR=>?_)
   ·obtain⟨v',e,hw,hv⟩:=hR;cases e;exact fin _ _ hw hv
   ·obtain⟨v',e,_⟩:=hR;cases e
   ·obtain⟨v',e,_⟩:=hR;cases e
  ·cases hc
 case callw f l=>exact absurd rfl (hnw f l)
 all_goals
  have hc2:cG P vm ss o.op _=true:=hc;unfold cG at hc2;rw[baT] at hc2;exact still hc2.1 hc2.2 (by first|rfl|(exact absurd hc2.1 Bool.false_ne_true))
theorem wn(hT:Ix P T)(h:FX F Iow w0 g0 o0 g w tmps vm ss s)(hnd:Ns vm)(hd:Dt vm ss o.dst D=some ss')(hfit:∀ d,o.dst=some d->d<tmps.size){f:Nat}{args:List Src}(hc:Ox vm ss f args o.op=true)
  (hok:(Iu T s key D ⟨args.all fun x=>Ch true (rd s x),f,args.map (UF s)⟩).ok=true)
  (hK:∀ tmps' w' g',tmps'.size=tmps.size->FX F Iow w0 g0 o0 g' w' tmps' vm ss' (Iu T s key D ⟨args.all fun x=>Ch true (rd s x),f,args.map (UF s)⟩)->K ⟨tmps',ds⟩ w'):o.upon P ⟨tmps,ds⟩ K Q ((execOp ({ tmps:=tmps,defers:=ds }:Act).eval o).run P w):=by
 have hall:=(My hok).2;have hall':(args.all fun x=>Ch true (rd s x))=true:=hall
 have e0:args.map (UF s)=args.map (rd (unS s)):=by
  simp only[List.all_eq_true] at hall';exact List.map_congr_left fun x hx=>(Ym (hall' x hx)).symm
 unfold Ox at hc;split at hc
 ·rename_i f' xs tys he;simp only[baT,beq_iff_eq] at hc;obtain⟨rfl,hc⟩:=hc;obtain⟨e1,e2⟩:=JH (ds:=ds) h.toFR.unS hc;rw[← e0] at e1 e2;have hcr:=IG (P:=P) (w:=w) (o:=o) (ρ:=({ tmps:=tmps,defers:=ds }:Act).eval) (f:=f') (v1:=#[]) (v2:=#[]) rfl he;rw[Array.empty_append,Array.append_empty] at hcr;rw[hcr];exact UM hT h hnd hd hfit (c:=⟨args.all fun x=>Ch true (rd s x),f',args.map (UF s)⟩) e1 e2 hok hK
 ·cases hc
theorem je(hT:Ix P T)(h:FX F Iow w0 g0 o0 g w tmps vm ss s)(hnd:Ns vm)(hn:tmps.size=n)(hc:gV P n ops vm ss o i=some ss')(hok:(Cp T s i).ok=true)
  (hK:∀ tmps' w' g',tmps'.size=n->FX F Iow w0 g0 o0 g' w' tmps' vm ss' (Cp T s i)->K ⟨tmps',ds⟩ w') :
  if Region.wanted o (yielded ops (⟨tmps,ds⟩:Act).tmps) then o.wp P ⟨tmps,ds⟩ w K Q else K ((⟨tmps,ds⟩:Act).put o.dst undef) w:=by
 have hcc:∀ {c:Bool} {x:Option (List Nat)},(bif c then x else none)=some ss'->c=true∧x=some ss':=by intro c x;cases c<;>simp
 unfold gV at hc;obtain⟨hb,hc⟩:=hcc hc
 ·simp only[baT] at hb;obtain⟨hb1,hb2,hb3⟩:=hb;have hfit:∀ d,o.dst=some d->d<tmps.size:=fun d e=>by rw[e] at hb1;simpa[pg,hn] using hb1
  cases hg:i.guard with
  | none=>
   rw[hg] at hb2 hb3
   have hog:o.guard=none:=by
    revert hb2;cases o.guard with
    | none=>intro _;rfl
    | some q=>intro hb2;simp[gc] at hb2
   rw[if_pos (by simp[Region.wanted,hog])];simp only[Cp,Uk,hg] at hok hK;exact fH hT h hnd hc hfit hb3 hok fun tmps' w' g' e hfx=>hK tmps' w' g' (by rw[e,hn]) hfx
  | some gd=>
   obtain⟨x,want⟩:=gd;rw[hg] at hb2 hb3;simp only[Cp,Uk,hg] at hok hK;cases hog:o.guard with
   | none=>rw[hog] at hb2;simp[gc] at hb2
   | some q=>
    obtain⟨j,want'⟩:=q;rw[hog] at hb2;simp only[gc,baT,beq_iff_eq] at hb2;obtain⟨rfl,hb2⟩:=hb2;split at hb2
    ·rename_i t ht;have h':=h.setOk (s.ok&&Ok (rd s x))
     have hgo:Ok (rd s x)=true:=by
      have:=jg hok;simp at this;exact this.2
     have hw:Region.wanted o (yielded ops tmps)=jm want' (rd s x):=by
      unfold Region.wanted;rw[hog];exact tf h.toFR ht hb2 hgo want'
     have hw':Region.wanted o (yielded ops (⟨tmps,ds⟩:Act).tmps)=jm want' (rd s x):=hw;rw[hw'];cases hv:jm want' (rd s x) with
     | true=>
      rw[hv] at hok hK;rw[if_pos rfl]
      by_cases hw:∃ f l,i.op = .callw f l
      ·obtain⟨f,l,ew⟩:=hw;rw[ew] at hok hK hb3;simp only[Ke,nH,if_true] at hok hK;exact wn hT h' hnd hc hfit hb3 hok fun tmps' w' g' e hfx=>hK tmps' w' g' (by rw[e,hn]) hfx
      ·have hnw:∀ f l,i.op ≠ .callw f l:=fun f l e=>hw ⟨f,l,e⟩
       have e1:Ke T { s with ok:=s.ok&&Ok (rd s x) } i.key i.dst true i.op=ME { s with ok:=s.ok&&Ok (rd s x) } true i.dst (Cx T { s with ok:=s.ok&&Ok (rd s x) } true i.key i.op):=by
        unfold Ke;split
        ·rename_i f l e;exact absurd e (hnw f l)
        ·rfl
       rw[e1] at hok hK;exact wo hT h' hnd hc hfit hb3 hnw hok fun tmps' w' g' e hfx=>hK tmps' w' g' (by rw[e,hn]) hfx
     | false=>
      rw[hv] at hok hK;rw[if_neg (by simp),NN]
      have e1:∃ m,Ke T { s with ok:=s.ok&&Ok (rd s x) } i.key i.dst false i.op=ME { s with ok:=s.ok&&Ok (rd s x) } false i.dst m:=by
       unfold Ke;split
       ·exact⟨DB .any,by simp[nH]⟩
       ·exact⟨_,rfl⟩
      obtain⟨m,e1⟩:=e1;rw[e1] at hK;exact hK _ _ _ (by rw[JA,hn]) (h'.guardSkip hnd hc hfit)
    ·exact absurd hb2 Bool.false_ne_true
theorem Uf(hT:Ix P T)(hnd:Ns vm):∀ (os:List Oper) (is:List Kw) {ss:List Nat} {s:St} {g:Gh} {w:World} {tmps:Array Value},FX F Iow w0 g0 o0 g w tmps vm ss s->tmps.size=n->Lu P n ops vm ss os is=some ss'->(Ef T is s).ok=true ->
  (∀ tmps' w' g',tmps'.size=n->FX F Iow w0 g0 o0 g' w' tmps' vm ss' (Ef T is s)->Q .normal ⟨tmps',ds⟩ w')->wpList P ops Q os ⟨tmps,ds⟩ w
 | [],[],ss,s,g,w,tmps,h,hn,hc,hok,hK=>by
  simp only[Lu,Option.some.injEq] at hc;subst hc;exact hK _ _ _ hn h
 | [],_::_,_,_,_,_,_,_,_,hc,_,_=>by simp[Lu] at hc
 | _::_,[],_,_,_,_,_,_,_,hc,_,_=>by simp[Lu] at hc
 | o::os,i::is,ss,s,g,w,tmps,h,hn,hc,hok,hK=>by
  simp only[Lu] at hc;split at hc
  ·rename_i ss1 hc1;refine wpList_step fun K hKK=>?_
   exact je hT h hnd hn hc1 (LC is hok) fun tmps' w' g' e hfx=>hKK _ _ (Uf hT hnd os is hfx e hc hok hK)
  ·cases hc
end
def KY:AV->Bool
 | .any=>true
 | a=>DE a
def Nb(a b:AV):Prop:=(DE a=true->b=a)∧(DE b=true->DE a=true)
theorem Nb.refl(a:AV):Nb a a:=⟨fun _=>rfl,id⟩
theorem Nb.trans{a b c:AV}(h:Nb a b)(k:Nb b c):Nb a c:=⟨fun e=>by
 have e1:=h.1 e;have e2:=k.1 (by rw[e1];exact e);rw[e2,e1],fun e=>h.2 (k.2 e)⟩
def Phi(φ:AV->AV):Prop:=(∀ a,KY a=true->φ a=a)∧∀ a,DE (φ a)=true->DE a=true
theorem iY{a:AV}(h:DE a=true):KY a=true:=by cases a<;>simp_all [KY,DE]
theorem Phi.nb{φ:AV->AV}(h:Phi φ)(a:AV):Nb a (φ a):=⟨fun e=>h.1 a (iY e),h.2 a⟩
theorem om(d:Nat):Phi (aR d):=by
 refine⟨fun a h=>?_,fun a h=>?_⟩
 ·cases a<;>simp[KY,DE] at h<;>simp[aR,AV.keys,AV.key1]
 ·unfold aR at h;rw[AO] at h;split at h
  ·cases h
  ·exact h
theorem MX(k:Nat):Phi (AV.kill k):=by
 refine⟨fun a h=>?_,fun a h=>?_⟩
 ·cases a<;>simp[KY,DE] at h<;>simp[AV.kill,AV.names,AV.keys,AV.key1]
 ·unfold AV.kill at h;rw[AO] at h;split at h
  ·cases h
  ·exact h
theorem wl(k:Nat)(hm:Hm):Phi (AV.fz k hm):=by
 refine⟨fun a h=>?_,fun a h=>?_⟩
 ·cases a<;>simp[KY,DE] at h<;>rfl
 ·cases a<;>simp only[AV.fz] at h<;>first|rfl|(cases h;done)|(rw[AO] at h;split at h<;>cases h)
def CH:Hv->Bool
 | .push=>false
 | _=>true
section
variable {s:St}{c:Bool}{v:AV}{D:Hv}
theorem ABa{φ:AV->AV}(hφ:Phi φ)(hv:KY v=true)(l:List AV)(n:Nat):(l.set n v).map φ=(l.map φ).set n v:=by
 rw[List.map_set,hφ.1 v hv]
theorem RB{φ:AV->AV}(hφ:Phi φ)(hv:KY v=true)(hp:CH D=true)(ob:CI):
  ({ vs:=(Ay s c v D).vs.map φ,st:=(Ay s c v D).st.map φ,ob:=ob,ok:=(Ay s c v D).ok }:St)=Ay { vs:=s.vs.map φ,st:=s.st.map φ,ob:=ob,ok:=s.ok } c v D:=by
 cases D<;>simp only[Ay,ABa hφ hv]
 cases hp
theorem FN:(Ay s c v D).ob=s.ob:=by cases D<;>rfl
theorem wc(b:Bool):({ Ay s c v D with ok:=(Ay s c v D).ok&&b }:St)=Ay { s with ok:=s.ok&&b } c v D:=by
 cases D<;>simp only[Ay,Bool.and_right_comm]
theorem iv(hv:KY v=true)(hp:CH D=true)(k:Nat)(h:Option Hm):freezeH (Ay s c v D) k h=Ay (freezeH s k h) c v D:=by
 cases h with
 | none=>rfl
 | some h=>simp only[freezeH,FN];exact RB (wl k h) hv hp _
theorem Eh(hv:KY v=true)(hp:CH D=true):∀ (ks:List Nat) (s:St),freezeAll (Ay s c v D) ks=Ay (freezeAll s ks) c v D
 | [],_=>rfl
 | k::r,s=>by
  simp only[freezeAll,FN];rw[iv hv hp];exact Eh hv hp r _
theorem wd(hv:KY v=true)(hp:CH D=true)(k:Nat):killAll (Ay s c v D) k=Ay (killAll s k) c v D:=by
 simp only[killAll,FN];exact RB (MX k) hv hp _
theorem qQ(hv:KY v=true)(hp:CH D=true)(d:Nat):clear (Ay s c v D) d=Ay (clear s d) c v D:=by
 unfold Go.Proofs.YteaicgcfpcklkaaGreatDoor.clear;rw[FN,AO,AO];split
 ·exact RB (om d) hv hp _
 ·rfl
theorem lc(hs:CI):QC (Ay s c v D) hs=Ay (QC s hs) c v D:=by
 cases D<;>rfl
theorem UY(ob:CI):({ Ay s c v D with ob:=ob }:St)=Ay { s with ob:=ob } c v D:=by cases D<;>rfl
theorem Ew:fail (Ay s c v D)=Ay (fail s) c v D:=by cases D<;>simp[fail,Ay]
def OJ:Hv->Hv->Bool
 | .var n,.var m=>n==m
 | .slot n,.slot m=>n==m
 | _,_=>false
theorem QM(D E:Hv):OJ D E=OJ E D:=by
 cases D<;>cases E<;>first|rfl|(simp only[OJ];rw[Bool.eq_iff_iff,beq_iff_eq,beq_iff_eq];exact eq_comm)
theorem RA{E:Hv}{c':Bool}{a:AV}(hp:CH D=true)(he:CH E=true)(h:OJ D E=false):Ay (Ay s c v D) c' a E=Ay (Ay s c' a E) c v D:=by
 have hb:(s.ok&&c&&c')=(s.ok&&c'&&c):=Bool.and_right_comm _ _ _
 cases D<;>simp only[CH] at hp<;>(try (cases hp;done))<;>cases E<;>simp only[CH] at he<;>(try (cases he;done))<;>simp only[Ay,hb] <;>
  (try (simp only[OJ,beq_eq_false_iff_ne] at h;rw[List.set_comm _ _ h]))
def Iw(D E:Hv):Bool:=CH E && !OJ D E
theorem wb(hv:KY v=true)(hp:CH D=true){E:Hv}(he:Iw D E=true)(key:Nat)(c':Bool)(a:AV)(hs:CI):RE (Ay s c v D) key E c' a hs=Ay (RE s key E c' a hs) c v D:=by
 simp only[Iw,baT,Bool.not_eq_true'] at he;cases hs with
 | nil=>exact RA hp he.1 he.2
 | cons h hs=>
  simp only[RE];rw[qQ hv hp,lc];exact RA hp he.1 he.2
theorem JS(hv:KY v=true)(hp:CH D=true){E:Hv}(he:Iw D E=true)(key:Nat)(m:Mk):DA (Ay s c v D) key E m=Ay (DA s key E m) c v D:=wb hv hp he key _ _ _
theorem ez(hv:KY v=true)(hp:CH D=true):∀ (ms:List Md) (as os:List AV) (s:St),Ae (Ay s c v D) ms as os=Ay (Ae s ms as os) c v D:=by
 intro ms
 induction ms with
 | nil=>
  intro as os s;cases as<;>cases os<;>simp only[Ae]<;>first|rfl|exact Ew
 | cons m ms ih=>
  intro as os s;cases m<;>cases as<;>(try (simp only[Ae];exact Ew))<;>cases os<;>(try (simp only[Ae];exact Ew))
  ·simp only[Ae];exact ih _ _ _
  ·rename_i a as o os;cases a<;>(try (simp only[Ae];exact Ew))
   ·cases o<;>(try (simp only[Ae];exact Ew))
    simp only[Ae,FN,UY];exact ih _ _ _
   ·rename_i k i off;cases off<;>cases o<;>(try (simp only[Ae];exact Ew))
    simp only[Ae,FN,UY];exact ih _ _ _
  ·rename_i a as o os;cases a<;>(try (simp only[Ae];exact Ew))
   ·simp only[Ae];exact ih _ _ _
   ·simp only[Ae];rw[wd hv hp];exact ih _ _ _
theorem wa(hv:KY v=true)(hp:CH D=true)(C:Ak)(args:List AV):Qp C (Ay s c v D) args=Ay (Qp C s args) c v D:=by
 unfold Qp;rw[AO,AO];split
 ·rfl
 ·exact Eh hv hp _ _
theorem qR(hv:KY v=true)(hp:CH D=true){E:Hv}(he:Iw D E=true)(key:Nat)(args:List AV)(C:Option Ak):Lv (Ay s c v D) key E args C=Ay (Lv s key E args C) c v D:=by
 cases C with
 | none=>exact Ew
 | some C=>
  simp only[Lv,NB,FN];rw[wa hv hp,ez hv hp,JS hv hp he]
theorem QQ{T:Il}(hv:KY v=true)(hp:CH D=true){E:Hv}(he:Iw D E=true)(key:Nat)(q:Cal):Iu T (Ay s c v D) key E q=Ay (Iu T s key E q) c v D:=by
 unfold Iu;rw[wc];exact qR hv hp he _ _ _
theorem lf(sz:Nat)(x p:AV):JK (Ay s c v D) sz x p=Ay (JK s sz x p) c v D:=by
 cases p<;>(try exact Ew)
 rename_i k i off;simp only[JK,FN];cases AK k s.ob with
 | none=>exact Ew
 | some h=>
  simp only[QF,Qs,FN];cases D<;>simp only[Ay,Bool.and_right_comm]
theorem wh(hv:KY v=true)(hp:CH D=true){E:Hv}(he:Iw D E=true)(key sz bytes:Nat)(y:Ap)(a:AV):Qi (Ay s c v D) key E sz bytes y a=Ay (Qi s key E sz bytes y a) c v D:=by
 cases a<;>(try exact Ew)
 ·exact JS hv hp he _ _
 ·rename_i k;simp only[Qi,FN];cases AK k s.ob with
  | none=>exact Ew
  | some h=>
   simp only[Uz];rw[RB (MX k) hv hp];simp only[Iw,baT,Bool.not_eq_true'] at he;simp only[FN];exact RA hp he.1 he.2
end
theorem ld{s:St}{c:Bool}{v:AV}{D:Hv}(hv:KY v=true)(hp:CH D=true){E:Hv}(he:Iw D E=true)(sz:Nat)(n:Int)(a:AV):JJ (Ay s c v D) E sz n a=Ay (JJ s E sz n a) c v D:=by
 cases a<;>(try exact Ew)
 rename_i k;simp only[JJ,FN];cases AK k s.ob with
 | none=>exact Ew
 | some h=>
  simp only[UH];rw[RB (MX k) hv hp];simp only[Iw,baT,Bool.not_eq_true'] at he;simp only[FN];exact RA hp he.1 he.2
def Un:Hv->Src->Bool
 | .var n,.v m=>n==m
 | .slot n,.s m=>n==m
 | _,_=>false
theorem NM{s:St}{c:Bool}{a:AV}{D:Hv}{x:Src}(hp:CH D=true)(hx:Un D x=false):rd (Ay s c a D) x=rd s x:=by
 cases D<;>simp only[CH] at hp<;>(try (cases hp;done))<;>cases x<;>simp only[Ay,rd]<;>simp only[Un,beq_eq_false_iff_ne] at hx
 ·rename_i n m;simp only[gdE,List.getElem?_set_ne hx]
 ·rename_i n m;simp only[gdE,List.getElem?_set_ne hx]
def Bm:GR->List Src
 | .store _ p x=>[p,x]
 | .app _ _ _ a x=>[a,x]
 | .callp _ args=>args
 | .callw _ args=>args
 | .pur a=>BG a
 | .pick c a b=>[c,a,b]
 | .mkFn _ fi ca=>fi++ca
 | .flat a=>EM a
 | .safe _ a=>DZ a
 | a=>BG a
section
variable {s:St}{c:Bool}{v:AV}{D:Hv}{T:Il}
theorem Ki{r r':Src->AV}{ob:CI}{d:Nat}{a:GR}(h:∀ x,x∈Bm a->r x=r' x):AU r ob d a=AU r' ob d a:=by
 cases a<;>simp only[Bm,BG] at h<;>(try (simp only[AU];done))
 case mkFn f fi ca=>
  simp only[AU];rw[List.map_congr_left (l:=fi) fun x hx=>h x (List.mem_append.2 (.inl hx)),List.map_congr_left (l:=ca) fun x hx=>h x (List.mem_append.2 (.inr hx))]
 all_goals exact Fz rfl (by simpa only[BG] using h)
theorem li{s s':St}{key:Nat}{a:GR}(hob:s'.ob=s.ob)(h:∀ x,x∈BG a->rd s' x=rd s x):Ib T s' key a=Ib T s key a:=by
 cases a
 case call f args=>simp only[BG] at h;simp only[Ib,hob];rw[List.map_congr_left h]
 case callv f args=>
  simp only[BG] at h;simp only[Ib,hob];rw[List.map_congr_left (l:=args) fun x hx=>h x (List.mem_cons_of_mem _ hx),h f (by simp)]
 all_goals first
  | (simp only[Ib,hob];rw[Fz rfl h];done)
  | rfl
theorem js{r r':Src->AV}{key:Nat}{a:GR}(h:∀ x,x∈EM a->r x=r' x):IF T r key a=IF T r' key a:=by
 cases a<;>simp only[EM] at h<;>(try rfl)
 case callp f args=>simp only[IF];rw[List.map_congr_left h]
 case pur b=>
  cases b<;>(try rfl)
  rename_i sz x lo hi;simp only[IF];rw[Fz (a:=.slice sz x lo hi) rfl h]
 all_goals
  simp only[IF];rw[Fz rfl h]
theorem VY{s s':St}{key:Nat}{a:GR}(h:∀ x,x∈EM a->rd s' x=rd s x):Ls ((EM a).all fun x=>DE (rd s' x)) (IF T (rd s') key a)=Ls ((EM a).all fun x=>DE (rd s x)) (IF T (rd s) key a):=by
 rw[js h]
 congr 1
 have:∀ l:List Src,(∀ x,x∈l->rd s' x=rd s x)->(l.all fun x=>DE (rd s' x))=l.all fun x=>DE (rd s x):=by
  intro l hl
  induction l with
  | nil=>rfl
  | cons y l ih=>simp only[List.all_cons];rw[hl y (by simp),ih fun x hx=>hl x (by simp[hx])]
 exact this _ h
theorem Yp{r r':Src->AV}{ob:CI}{d:Nat}{a:GR}(h:∀ x,x∈BG a->r x=r' x):OL T r ob d a=OL T r' ob d a:=by
 by_cases hg:Ar a=true
 ·cases a
  case call f args=>
   simp only[BG] at h;simp only[OL];rw[List.map_congr_left h]
  case callv f args=>
   simp only[BG] at h;simp only[OL];rw[List.map_congr_left (l:=args) fun x hx=>h x (List.mem_cons_of_mem _ hx),h f (by simp)]
  all_goals first
   | (exfalso;simp[Ar] at hg;done)
   | (simp only[OL];rw[Fz hg h])
 ·have hg':Ar a=false:=by simpa using hg
  cases a
  case call f args=>simp[Ar] at hg
  case callv f args=>simp[Ar] at hg
  all_goals (simp only[OL];rw[hg'];rfl)
theorem VL{r r':Src->AV}{ob:CI}{key:Nat}{a:GR}(h:∀ x,x∈DZ a->r x=r' x):Ia T r ob key a=Ia T r' ob key a:=by
 cases a
 case pur b=>
  have h':∀ x,x∈BG b->r x=r' x:=h;clear h;cases b
  case callv=>rfl
  all_goals
   simp only[Ia];exact Yp h'
 case pick c x y=>
  simp only[DZ] at h;simp only[Ia];rw[h c (by simp),h x (by simp),h y (by simp)]
 case callp f args=>
  simp only[DZ] at h;simp only[Ia];rw[List.map_congr_left h]
 case mkFn f fi ca=>
  simp only[Ia];rw[Ki (a:=.mkFn f fi ca) h]
 all_goals first
  | rfl
  | (simp only[Ia];rw[Ki (by simpa only[Bm,DZ] using h)])
theorem VK{r r':Src->AV}{ob:CI}{key:Nat}{ds:List Nat}{a:GR}(h:∀ x,x∈DZ a->r x=r' x):Jm T r ob key ds a=Jm T r' ob key ds a:=by
 unfold Jm;rw[VL h]
 congr 1
 have:∀ l:List Src,(∀ x,x∈l->r x=r' x)->(l.all fun x=>NP ds (r x))=l.all fun x=>NP ds (r' x):=by
  intro l hl
  induction l with
  | nil=>rfl
  | cons y l ih=>simp only[List.all_cons];rw[hl y (by simp),ih fun x hx=>hl x (by simp[hx])]
 exact this _ h
theorem wg(hv:KY v=true)(hp:CH D=true){E:Hv}(he:Iw D E=true){key:Nat}{a:GR}(hr:∀ x,x∈Bm a->Un D x=false):CL T (Ay s c v D) key E a=Ay (CL T s key E a) c v D:=by
 have hrd:∀ x,x∈Bm a->∀ s c,rd (Ay s c v D) x=rd s x:=fun x hx s c=>NM hp (hr x hx)
 have hmap:∀ l:List Src,(∀ x,x∈l->x∈Bm a)->l.map (rd (Ay s c v D))=l.map (rd s):=fun l hl=>List.map_congr_left fun x hx=>hrd x (hl x hx) s c
 have st:∀ b:GR,Bm b=Bm a->∀ s:St,DA (Ay s c v D) key E (AU (rd (Ay s c v D)) (Ay s c v D).ob key b)=Ay (DA s key E (AU (rd s) s.ob key b)) c v D:=fun b hb s=>by
  rw[FN,Ki (r':=rd s) fun x hx=>hrd x (hb▸hx) s c];exact JS hv hp he _ _
 cases a
 case store sz p x=>
  simp only[CL];rw[hrd x (by simp[Bm]),Eh hv hp,hrd x (by simp[Bm]),hrd p (by simp[Bm])];exact lf _ _ _
 case app sz bytes z y x=>
  simp only[CL,FN];rw[hrd x (by simp[Bm]),hrd y (by simp[Bm])];exact wh hv hp he _ _ _ _ _
 case call f args=>
  simp only[CL];rw[hmap args fun x hx=>by simpa[Bm,BG] using hx];exact QQ hv hp he _ _
 case callv f args=>
  simp only[CL];rw[hmap args fun x hx=>by simp[Bm,BG,hx],hrd f (by simp[Bm,BG])];exact QQ hv hp he _ _
 case callp f args=>
  simp only[CL,FN];rw[hmap args fun x hx=>by simpa[Bm] using hx];exact JS hv hp he _ _
 case pur b=>
  simp only[CL];rw[li (s:=s) FN fun x hx=>hrd x (by simpa[Bm] using hx) s c];exact JS hv hp he _ _
 case callw f args=>exact Ew
 case flat b=>
  simp only[CL];rw[VY (s:=s) (s':=Ay s c v D) fun x hx=>hrd x (by simpa[Bm] using hx) s c];exact JS hv hp he _ _
 case pick q x y=>
  simp only[CL];rw[hrd q (by simp[Bm]),hrd x (by simp[Bm]),hrd y (by simp[Bm])];exact JS hv hp he _ _
 case trunc sz x y=>
  simp only[CL];rw[hrd x (by simp[Bm,BG]),hrd y (by simp[Bm,BG])];exact ld hv hp he _ _ _
 case movz x=>
  simp only[CL];rw[hrd x (by simp[Bm,BG]),Eh hv hp];exact st (.mov x) rfl _
 case safe ks b=>
  simp only[CL];rw[FN,VK (r':=rd s) fun x hx=>hrd x (by simpa[Bm] using hx) s c];exact JS hv hp he _ _
 case box x=>
  simp only[CL];rw[hrd x (by simp[Bm,BG]),Eh hv hp,hrd x (by simp[Bm,BG])];exact JS hv hp he _ _
 case build z ps=>
  simp only[CL]
  have hk:Cg (Ay s c v D) (.build z ps)=Cg s (.build z ps):=by
   simp only[Cg,List.flatMap_def];rw[List.map_congr_left fun p hq=>by rw[hrd p.2.2 (List.mem_map.2 ⟨p,hq,rfl⟩) s c]]
  rw[hk,Eh hv hp];exact st _ rfl _
 case mkSl sz z n ps=>
  simp only[CL]
  have hk:Cg (Ay s c v D) (.mkSl sz z n ps)=Cg s (.mkSl sz z n ps):=by
   simp only[Cg,List.flatMap_def];rw[List.map_congr_left fun p hq=>by rw[hrd p.2 (List.mem_map.2 ⟨p,hq,rfl⟩) s c]]
  rw[hk,Eh hv hp];exact st _ rfl _
 case slice sz x lo hi=>
  simp only[CL];rw[hrd x (by simp[Bm,BG]),Eh hv hp];exact st _ rfl _
 all_goals
  simp only[CL];exact st _ rfl _
theorem wV{s:St}{x:Src}:UF s x=(match x with | .c a=>a|x=>Ho (rd s x)):=by cases x<;>rfl
theorem wW{s s':St}{x:Src}(h:rd s' x=rd s x):UF s' x=UF s x:=by
 rw[wV,wV];cases x<;>simp only[h]
theorem qX{a:GR}{x:Src}(h:x∈BG a):x∈Bm a:=by
 cases a<;>first|exact h|(simp[BG] at h)
theorem Qj{f g:Src->Bool}:∀ {l:List Src},(∀ x,x∈l->f x=g x)->l.all f=l.all g
 | [],_=>rfl
 | x::l,h=>by simp only[List.all_cons];rw[h x (by simp),Qj fun y hy=>h y (by simp[hy])]
theorem Zy{s s':St}{w:Bool}{key:Nat}{a:GR}(hob:s'.ob=s.ob)(h:∀ x,x∈Bm a->rd s' x=rd s x):Cx T s' w key a=Cx T s w key a:=by
 have hu:∀ x,x∈Bm a->UF s' x=UF s x:=fun x hx=>wW (h x hx)
 have hall:((BG a).all fun x=>Ch w (rd s' x))=(BG a).all fun x=>Ch w (rd s x):=Qj fun x hx=>by rw[h x (qX hx)]
 have dflt:FQ (Ar a&&(BG a).all fun x=>Ch w (rd s' x)) (Pj (AU (UF s') s'.ob key a))=FQ (Ar a&&(BG a).all fun x=>Ch w (rd s x)) (Pj (AU (UF s) s.ob key a)):=by
  rw[hall,hob,Ki hu]
 cases a
 case pick q x y=>
  simp only[Cx];rw[h q (by simp[Bm]),h x (by simp[Bm]),h y (by simp[Bm]),hu q (by simp[Bm])]
 case call f args=>
  simp only[Cx,hob];rw[hall,List.map_congr_left (l:=args) fun x hx=>hu x (by simpa[Bm,BG] using hx)]
 case callv f args=>
  simp only[Cx,hob];rw[hall,List.map_congr_left (l:=args) fun x hx=>hu x (by simp[Bm,BG,hx]),hu f (by simp[Bm,BG])]
 all_goals exact dflt
theorem iq(hv:KY v=true)(hp:CH D=true){E:Hv}(he:Iw D E=true)(w:Bool)(m:Mk):ME (Ay s c v D) w E m=Ay (ME s w E m) c v D:=by
 simp only[Iw,baT,Bool.not_eq_true'] at he;exact RA hp he.1 he.2
theorem qO(hv:KY v=true)(hp:CH D=true){E:Hv}(he:Iw D E=true){key:Nat}{w:Bool}{a:GR}(hr:∀ x,x∈Bm a->Un D x=false):Ke T (Ay s c v D) key E w a=Ay (Ke T s key E w a) c v D:=by
 have hrd:∀ x,x∈Bm a->rd (Ay s c v D) x=rd s x:=fun x hx=>NM hp (hr x hx)
 have dflt:∀ b:GR,b=a->ME (Ay s c v D) w E (Cx T (Ay s c v D) w key b)=Ay (ME s w E (Cx T s w key b)) c v D:=fun b hb=>by
  subst hb;rw[Zy FN hrd];exact iq hv hp he _ _
 cases a
 case callw f args=>
  simp only[Ke,nH];split
  ·have e1:(args.all fun x=>Ch true (rd (Ay s c v D) x))=args.all fun x=>Ch true (rd s x):=Qj fun x hx=>by rw[hrd x (by simpa[Bm] using hx)]
   rw[e1,List.map_congr_left (l:=args) fun x hx=>wW (hrd x (by simpa[Bm] using hx))];exact QQ hv hp he _ _
  ·exact iq hv hp he _ _
 all_goals exact dflt _ rfl
def LU(i:Kw):List Src:=(match i.guard with|some g=>[g.1]|none=>[])++Bm i.op
theorem qP(hv:KY v=true)(hp:CH D=true){i:Kw}(he:Iw D i.dst=true)(hr:∀ x,x∈LU i->Un D x=false):Cp T (Ay s c v D) i=Ay (Cp T s i) c v D:=by
 unfold Cp;unfold LU at hr;cases hg:i.guard with
 | none=>rw[hg] at hr;simp only[Uk];exact wg hv hp he fun x hx=>hr x (by simpa using hx)
 | some g=>
  rw[hg] at hr;simp only[Uk];rw[NM hp (hr g.1 (by simp)),wc];exact qO hv hp he fun x hx=>hr x (by simp[hx])
def Vk(s s':St):Prop:=∀ x,Nb (rd s x) (rd s' x)
theorem Vk.refl(s:St):Vk s s:=fun x=>Nb.refl _
theorem Vk.trans{a b d:St}(h:Vk a b)(k:Vk b d):Vk a d:=fun x=>(h x).trans (k x)
theorem Yv{φ:AV->AV}(hφ:Phi φ)(s:St)(ob:CI)(ok:Bool):Vk s { vs:=s.vs.map φ,st:=s.st.map φ,ob:=ob,ok:=ok }:=by
 have ha:φ .any = .any:=hφ.1 _ rfl;intro x;cases x
 ·simp only[rd];rw[Bg φ ha];exact hφ.nb _
 ·simp only[rd];rw[Bg φ ha];exact hφ.nb _
 ·exact Nb.refl _
theorem Dx{s s':St}(h1:s'.vs=s.vs)(h2:s'.st=s.st):Vk s s':=by
 intro x;cases x<;>simp only[rd,h1,h2]<;>exact Nb.refl _
theorem Fj:∀ (ks:List Nat) (s:St),Vk s (freezeAll s ks)
 | [],s=>Vk.refl s
 | k::r,s=>by
  simp only[freezeAll];refine Vk.trans ?_ (Fj r _);cases AK k s.ob with
  | none=>exact Vk.refl _
  | some h=>exact Yv (wl k h) _ _ _
theorem xE(d:Nat)(s:St):Vk s (clear s d):=by
 unfold Go.Proofs.YteaicgcfpcklkaaGreatDoor.clear;rw[AO];split
 ·exact Yv (om d) _ _ _
 ·exact Vk.refl _
def NbE(E:Hv)(s s':St):Prop:=∀ x,Un E x=false->Nb (rd s x) (rd s' x)
theorem PL{E:Hv}(he:CH E=true){s s':St}(h:Vk s s')(c:Bool)(a:AV):NbE E s (Ay s' c a E):=fun x hx=>by
 rw[NM he hx];exact h x
theorem Lp{E:Hv}(he:CH E=true){s s':St}(h:Vk s s')(key:Nat)(m:Mk):NbE E s (DA s' key E m):=by
 unfold DA;cases m.hs with
 | nil=>exact PL he h _ _
 | cons p r=>
  simp only[RE];refine PL he ?_ _ _;refine h.trans ((xE key s').trans ?_);exact Dx rfl rfl
theorem jE:∀ (ms:List Md) (as os:List AV) (s:St),Vk s (Ae s ms as os):=by
 intro ms
 induction ms with
 | nil=>
  intro as os s;cases as<;>cases os<;>simp only[Ae]<;>exact Dx rfl rfl
 | cons m ms ih=>
  intro as os s;cases m<;>cases as<;>(try (simp only[Ae];exact Dx rfl rfl))<;>cases os<;>(try (simp only[Ae];exact Dx rfl rfl))
  ·simp only[Ae];exact ih _ _ _
  ·rename_i a as o os;cases a<;>(try (simp only[Ae];exact Dx rfl rfl))
   ·cases o<;>(try (simp only[Ae];exact Dx rfl rfl))
    simp only[Ae];refine Vk.trans ?_ (ih _ _ _);exact Dx rfl rfl
   ·rename_i k i off;cases off<;>cases o<;>(try (simp only[Ae];exact Dx rfl rfl))
    simp only[Ae];refine Vk.trans ?_ (ih _ _ _);exact Dx rfl rfl
  ·rename_i a as o os;cases a<;>(try (simp only[Ae];exact Dx rfl rfl))
   ·simp only[Ae];exact ih _ _ _
   ·simp only[Ae];exact Vk.trans (Yv (MX _) _ _ _) (ih _ _ _)
theorem Uc{E:Hv}(he:CH E=true)(s:St)(key:Nat)(q:Cal):NbE E s (Iu T s key E q):=by
 unfold Iu;cases T q.f with
 | none=>exact fun x _=>Dx (s:=s) rfl rfl x
 | some C=>
  simp only[Lv,NB];refine Lp he ?_ _ _;refine Vk.trans ?_ (jE _ _ _ _);unfold Qp;rw[AO];split
  ·exact Dx rfl rfl
  ·refine Vk.trans ?_ (Fj _ _);exact Dx rfl rfl
theorem xC(s:St)(sz:Nat)(x p:AV):Vk s (JK s sz x p):=by
 cases p<;>(try exact Dx rfl rfl)
 rename_i k i off;simp only[JK];cases AK k s.ob<;>exact Dx rfl rfl
theorem AGs{E:Hv}(he:CH E=true)(s:St)(key sz bytes:Nat)(y:Ap)(a:AV):NbE E s (Qi s key E sz bytes y a):=by
 cases a<;>(try (exact fun x _=>Dx (s:=s) rfl rfl x))
 ·exact Lp he (Vk.refl s) _ _
 ·rename_i k;simp only[Qi];cases AK k s.ob with
  | none=>exact fun x _=>Dx (s:=s) rfl rfl x
  | some h=>exact PL he (Yv (MX k) _ _ _) _ _
theorem xB{E:Hv}(he:CH E=true)(s:St)(sz:Nat)(n:Int)(a:AV):NbE E s (JJ s E sz n a):=by
 cases a<;>(try (exact fun x _=>Dx (s:=s) rfl rfl x))
 rename_i k;simp only[JJ];cases AK k s.ob with
 | none=>exact fun x _=>Dx (s:=s) rfl rfl x
 | some h=>exact PL he (Yv (MX k) _ _ _) _ _
theorem ABs{E:Hv}(he:CH E=true)(s:St)(key:Nat)(a:GR):NbE E s (CL T s key E a):=by
 cases a<;>simp only[CL]
 case store=>exact fun x _=>((Fj _ s).trans (xC _ _ _ _)) x
 case app=>exact AGs he _ _ _ _ _ _
 case call=>exact Uc he _ _ _
 case callv=>exact Uc he _ _ _
 case callw=>exact fun x _=>Dx (s:=s) rfl rfl x
 case box=>exact Lp he (Fj _ s) _ _
 case build=>exact Lp he (Fj _ s) _ _
 case mkSl=>exact Lp he (Fj _ s) _ _
 case slice=>exact Lp he (Fj _ s) _ _
 case movz=>exact Lp he (Fj _ s) _ _
 case trunc=>exact xB he _ _ _ _
 all_goals exact Lp he (Vk.refl s) _ _
theorem xD{i:Kw}(he:CH i.dst=true)(s:St):NbE i.dst s (Cp T s i):=by
 unfold Cp;cases i.guard with
 | none=>exact ABs he s _ _
 | some g=>
  simp only[Uk];have h0:Vk s { s with ok:=s.ok&&Ok (rd s g.1) }:=Dx rfl rfl;have dflt:∀ m,NbE i.dst s (ME { s with ok:=s.ok&&Ok (rd s g.1) } (jm g.2 (rd s g.1)) i.dst m):=fun m=>PL he h0 _ _
  cases i.op
  case callw f args=>
   simp only[Ke,nH];split
   ·exact fun x hx=>(h0 x).trans (Uc he _ _ _ x hx)
   ·exact PL he h0 _ _
  all_goals exact dflt _
theorem AEB{s s':St}{key:Nat}{a:GR}(h:∀ x,x∈EM a->Nb (rd s x) (rd s' x)):Ls ((EM a).all fun x=>DE (rd s' x)) (IF T (rd s') key a)=Ls ((EM a).all fun x=>DE (rd s x)) (IF T (rd s) key a):=by
 by_cases hs:∀ x,x∈EM a->DE (rd s x)=true
 ·exact VY fun x hx=>(h x hx).1 (hs x hx)
 ·have e1:((EM a).all fun x=>DE (rd s x))=false:=by
   rw[Bool.eq_false_iff];exact fun c=>hs (List.all_eq_true.1 c)
  have e2:((EM a).all fun x=>DE (rd s' x))=false:=by
   rw[Bool.eq_false_iff];exact fun c=>hs fun x hx=>(h x hx).2 (List.all_eq_true.1 c x hx)
  rw[e1,e2];rfl
theorem dN{b:Bool}{m:Mk}:KY (Ls b m).v=true∧(Ls b m).hs=[]:=by
 unfold Ls;rw[AO];split
 ·rename_i h;simp only[baT] at h;exact⟨iY h.2.2,rfl⟩
 ·exact⟨rfl,rfl⟩
def fQ(i:Kw):Bool:=i.guard.isNone&&(match i.op with
 | .flat _=>true
 | _=>false)
theorem jp{s:St}{i j:Kw}(hj:fQ j=true)(hp:CH i.dst=true)(hq:CH j.dst=true)(hd:OJ j.dst i.dst=false)(h1:∀ x,x∈LU j->Un i.dst x=false)(h2:∀ x,x∈LU i->Un j.dst x=false):
  Cp T (Cp T s i) j=Cp T (Cp T s j) i:=by
 obtain⟨D,key,gd,op⟩:=j;simp only[fQ,baT,Option.isNone_iff_eq_none] at hj;obtain⟨rfl,hop⟩:=hj;cases op<;>(try (cases hop;done))
 rename_i a
 have hj:∀ s:St,Cp T s ⟨D,key,none,.flat a⟩=Ay s (Ls ((EM a).all fun x=>DE (rd s x)) (IF T (rd s) key a)).ok (Ls ((EM a).all fun x=>DE (rd s x)) (IF T (rd s) key a)).v D:=fun s=>by
  simp only[Cp,Uk,CL];unfold DA;rw[dN.2];rfl
 rw[hj,hj,AEB (s:=s) fun x hx=>xD hp s x (h1 x (by simpa[LU,Bm] using hx))];refine (qP dN.1 hq ?_ h2).symm;simp only[Iw,baT,Bool.not_eq_true'];exact⟨hp,hd⟩
end
def Ui:GR->Bool
 | .mov _=>true
 | .load _ _ _=>true
 | .nilck _=>true
 | .bin _ _ _ _=>true
 | .eqA _ _ _ _=>true
 | .un _ _=>true
 | .conv _ _=>true
 | .b2s _=>true
 | .mkFn _ _ _=>true
 | .fldAddr _ _=>true
 | .fld _ _ _ _=>true
 | .ixAddr _ _ _=>true
 | .ixStr _ _=>true
 | .ext _ _=>true
 | .len _ _=>true
 | .minmax _ _=>true
 | .pick _ _ _=>true
 | .callp _ _=>true
 | .pur _=>true
 | .safe _ _=>true
 | _=>false
def fP:GR->Bool
 | .pick _ _ _=>true
 | _=>false
def Nj(i:Kw):Bool:=match i.guard with
 | some _=>Ar i.op||fP i.op
 | none=>Ui i.op
def KX:GR->List Src
 | .mkFn _ fi ca=>fi++ca
 | .pick c a b=>[c,a,b]
 | .callp _ args=>args
 | .pur a=>BG a
 | .safe _ a=>DZ a
 | a=>BG a
def cN(i:Kw):List Src:=(match i.guard with|some g=>[g.1]|none=>[])++KX i.op
def AFR(i j:Kw):Bool:=CH i.dst&&(CH j.dst&&(!OJ i.dst j.dst&&((LU j).all (fun x=>!Un i.dst x)&&(LU i).all (fun x=>!Un j.dst x))))
def MV(r:Src->AV):Src->AV
 | .c a=>a
 | x=>Ho (r x)
theorem ABn{T:Il}{r:Src->AV}{ob:CI}{key:Nat}{a:GR}:(OL T r ob key a).hs=[]:=by cases a<;>simp only[OL,AO]<;>(try split)<;>rfl
def nU (T:Il) (r:Src->AV) (ob:CI) (key:Nat):GR->Bool×AV
 | .pur a=>((OL T r ob key a).ok,(OL T r ob key a).v)
 | .pick c a b=>((LL true (r a) (r b) (r c)).ok,(LL true (r a) (r b) (r c)).v)
 | .callp f args=>((JB (CY T ob ⟨true,f,args.map r⟩)).ok,(JB (CY T ob ⟨true,f,args.map r⟩)).v)
 | .safe ds a=>((Jm T r ob key ds a).ok,(Jm T r ob key ds a).v)
 | op=>((AU r ob key op).ok,(AU r ob key op).v)
def Gj (T:Il) (r:Src->AV) (ob:CI) (w:Bool) (key:Nat):GR->Mk
 | .pick c a b=>FQ (Ch w (r c)) (LL w (r a) (r b) (MV r c))
 | .call f args=>FQ ((BG (.call f args)).all fun x=>Ch w (r x)) (CY T ob ⟨true,f,args.map (MV r)⟩)
 | .callv f args=>FQ ((BG (.callv f args)).all fun x=>Ch w (r x)) (CY T ob (Iq (args.map (MV r)) (MV r f)))
 | op=>FQ (Ar op&&(BG op).all fun x=>Ch w (r x)) (Pj (AU (MV r) ob key op))
def eff (T:Il) (r:Src->AV) (ob:CI) (i:Kw):Bool×AV :=
 match i.guard with
 | none=>nU T r ob i.key i.op
 | some g=>(Ok (r g.1)&&(!jm g.2 (r g.1)||((Gj T r ob (jm g.2 (r g.1)) i.key i.op).ok&&((Gj T r ob (jm g.2 (r g.1)) i.key i.op).hs.isEmpty&&(Gj T r ob (jm g.2 (r g.1)) i.key i.op).v.lone))),
   .opt (jm g.2 (r g.1)) (Gj T r ob (jm g.2 (r g.1)) i.key i.op).v)
theorem wX(s:St):MV (rd s)=UF s:=by funext x;cases x<;>rfl
theorem ABm{T:Il}{r:Src->AV}{ob:CI}{key:Nat}{a:GR}(h:Ui a=true)(hp:∀ x y z,a ≠ .pick x y z)(hc:∀ f l,a ≠ .callp f l)(hu:∀ x,a ≠ .pur x)(hsf:∀ q x,a ≠ .safe q x):(AU r ob key a).hs=[]:=by
 cases a<;>simp only[Ui] at h<;>(try (cases h;done))<;>simp only[AU]
 case mov=>rfl
 case load agg sz p=>
  cases r p<;>simp only[Lq]<;>try rfl
  ·exact RG _ _ _ _
  ·rename_i k i off;cases AK k ob<;>first|rfl|exact RG _ _ _ _
 case nilck x=>cases r x<;>simp only[MG]<;>(try rfl)<;>(rename_i f _ _;cases f<;>rfl)
 case bin bl op x y=>
  unfold aX;split
  ·rw[AO];split
   ·unfold shB;split<;>rfl
   ·simp only[FQ];unfold Le;split<;>rfl
  ·unfold UL;split<;>rfl
  ·simp only[FQ];unfold eh;split<;>rfl
  ·rfl
 case eqA neg ks x y=>unfold Oq;split<;>rfl
 case un op x=>unfold unA;split<;>(try rfl)<;>(split<;>rfl)
 case conv k x=>unfold aL;split<;>rfl
 case b2s x=>cases r x<;>simp only[Vy]<;>(try rfl);rename_i k;cases AK k ob<;>rfl
 case mkFn=>rfl
 case fldAddr off p=>unfold KQ;split<;>rfl
 case fld agg off sz x=>simp only[FQ];exact RG _ _ _ _
 case ixAddr sz x i=>cases r x<;>simp only[JY]<;>(try rfl);rename_i k;cases AK k ob<;>rfl
 case ixStr x i=>unfold OR;split<;>rfl
 case ext x i=>unfold jx;split<;>rfl
 case len st x=>cases r x<;>simp only[Vp]<;>(try rfl);rename_i k;cases AK k ob<;>rfl
 case minmax mx xs=>unfold mmA;split<;>rfl
 case pick c a b=>exact absurd rfl (hp _ _ _)
 case callp f l=>exact absurd rfl (hc _ _)
 case pur x=>exact absurd rfl (hu _)
 case safe q x=>exact absurd rfl (hsf _ _)
theorem ia{T:Il}{r:Src->AV}{ob:CI}{key:Nat}{ds:List Nat}{a:GR}:(Jm T r ob key ds a).hs=[]:=by
 unfold Jm Yd;rw[AO];split<;>rfl
theorem wk{w:Bool}{a b c:AV}:(LL w a b c).hs=[]:=by unfold LL;split<;>rfl
theorem MW{s:St}{key:Nat}{D:Hv}{m:Mk}(h:m.hs=[]):DA s key D m=Ay s m.ok m.v D:=by unfold DA;rw[h];rfl
theorem te{T:Il}{s:St}{w:Bool}{key:Nat}{a:GR}:Cx T s w key a=Gj T (rd s) s.ob w key a:=by
 cases a<;>simp only[Cx,Gj,wX]
theorem PR{T:Il}{s:St}{i:Kw}(h:Nj i=true):Cp T s i=Ay s (eff T (rd s) s.ob i).1 (eff T (rd s) s.ob i).2 i.dst:=by
 unfold Cp eff;cases hg:i.guard with
 | some g=>
  have hnw:∀ f l,i.op ≠ .callw f l:=fun f l e=>by simp[Nj,hg,e,Ar,fP] at h
  have e1:∀ s' w,Ke T s' i.key i.dst w i.op=ME s' w i.dst (Cx T s' w i.key i.op):=by
   intro s' w;unfold Ke;split
   ·rename_i f l e;exact absurd e (hnw f l)
   ·rfl
  simp only[Uk];rw[e1];have e2:Cx T { s with ok:=s.ok&&Ok (rd s g.1) } (jm g.2 (rd s g.1)) i.key i.op=Cx T s (jm g.2 (rd s g.1)) i.key i.op:=rfl;rw[e2,te];simp only[ME];cases i.dst<;>simp[Ay,Bool.and_assoc]
 | none=>
  simp only[Nj,hg] at h;simp only[Uk];generalize i.op=a at h;cases a<;>simp only[Ui] at h<;>(try (cases h;done))<;>simp only[CL,nU]
  case pick=>rw[MW wk]
  case callp=>rw[MW rfl]
  case pur=>rw[ol,MW ABn]
  case safe=>rw[MW ia]
  all_goals
   rw[MW (ABm (T:=T) rfl (fun _ _ _ e=>by cases e) (fun _ _ e=>by cases e) (fun _ e=>by cases e) (fun _ _ e=>by cases e))]
theorem oq{s:St}{c:Bool}{a:AV}{D:Hv}:(Ay s c a D).ob=s.ob:=by cases D<;>rfl
theorem cQ{s:St}{c d:Bool}{a b:AV}{D E:Hv}(h1:CH D=true)(h2:CH E=true)(h3:OJ D E=false):Ay (Ay s c a D) d b E=Ay (Ay s d b E) c a D:=by
 have hb:(s.ok&&c&&d)=(s.ok&&d&&c):=Bool.and_right_comm _ _ _
 cases D<;>simp only[CH] at h1<;>(try (cases h1;done))<;>cases E<;>simp only[CH] at h2<;>(try (cases h2;done))<;>simp only[Ay,hb] <;>
  (try (simp only[OJ,beq_eq_false_iff_ne] at h3;rw[List.set_comm _ _ h3]))
theorem YW{r r':Src->AV}{ob:CI}{d:Nat}{a:GR}(hg:Ui a=true)(hp:∀ x y z,a ≠ .pick x y z)(hc:∀ f l,a ≠ .callp f l)(hu:∀ x,a ≠ .pur x)(hsf:∀ q x,a ≠ .safe q x)(h:∀ x,x∈KX a->r x=r' x):AU r ob d a=AU r' ob d a:=by
 cases a<;>simp only[Ui] at hg<;>(try (cases hg;done))<;>simp only[KX,BG] at h<;>simp only[AU]
 case minmax mx xs=>rw[List.map_congr_left h]
 case mkFn f fi ca=>
  rw[List.map_congr_left (l:=fi) fun x hx=>h x (List.mem_append.2 (.inl hx)),List.map_congr_left (l:=ca) fun x hx=>h x (List.mem_append.2 (.inr hx))]
 all_goals first|(exact absurd rfl (hp _ _ _))|(exact absurd rfl (hc _ _))|(exact absurd rfl (hu _))|(exact absurd rfl (hsf _ _))|simp_all
theorem Ln{r r':Src->AV}{x:Src}(h:r x=r' x):MV r x=MV r' x:=by cases x<;>simp[MV,h]
theorem Zz{T:Il}{r r':Src->AV}{ob:CI}{w:Bool}{key:Nat}{a:GR}(hg:Ar a=true∨fP a=true)(h:∀ x,x∈KX a->r x=r' x):Gj T r ob w key a=Gj T r' ob w key a:=by
 have hall:∀ l:List Src,(∀ x,x∈l->r x=r' x)->(l.all fun x=>Ch w (r x))=(l.all fun x=>Ch w (r' x)):=by
  intro l hl
  induction l with
  | nil=>rfl
  | cons y l ih=>simp only[List.all_cons];rw[hl y (by simp),ih fun x hx=>hl x (by simp[hx])]
 have hmap:∀ l:List Src,(∀ x,x∈l->r x=r' x)->l.map (MV r)=l.map (MV r'):=fun l hl=>List.map_congr_left fun x hx=>Ln (hl x hx)
 have still:Ar a=true->(∀ x,x∈BG a->r x=r' x)->FQ (Ar a&&(BG a).all fun x=>Ch w (r x)) (Pj (AU (MV r) ob key a))=FQ (Ar a&&(BG a).all fun x=>Ch w (r' x)) (Pj (AU (MV r') ob key a)):=by
  intro hcg hh;rw[hall _ hh,Fz hcg fun x hx=>Ln (hh x hx)]
 cases a
 case pick c x y=>
  simp only[KX] at h;simp only[Gj];rw[h c (by simp),h x (by simp),h y (by simp),Ln (h c (by simp))]
 case call f args=>
  simp only[KX,BG] at h;simp only[Gj,BG];rw[hall _ h,hmap _ h]
 case callv f args=>
  simp only[KX,BG] at h;simp only[Gj,BG];rw[hall _ h,hmap _ fun x hx=>h x (List.mem_cons_of_mem _ hx),Ln (h f (by simp))]
 all_goals
  first
  | (exfalso;rcases hg with hg|hg<;>simp[Ar,fP] at hg;done)
  | exact still rfl h
theorem dS{T:Il}{r r':Src->AV}{ob:CI}{i:Kw}(he:Nj i=true)(h:∀ x,x∈cN i->r x=r' x):eff T r ob i=eff T r' ob i:=by
 unfold cN at h;unfold Nj at he;unfold eff;cases hg:i.guard with
 | some g=>
  rw[hg] at he h;simp only at he h ⊢;have h1:r g.1=r' g.1:=h _ (by simp);have h2:∀ w,Gj T r ob w i.key i.op=Gj T r' ob w i.key i.op:=fun w=>Zz (by simpa using he) fun x hx=>h x (List.mem_append.2 (.inr hx))
  rw[h1,h2]
 | none=>
  rw[hg] at he h;simp only[List.nil_append] at he h ⊢;generalize i.op=a at he h;cases a
  case pick c x y=>
   simp only[KX] at h;simp only[nU];rw[h c (by simp),h x (by simp),h y (by simp)]
  case callp f args=>
   simp only[KX] at h;simp only[nU];rw[List.map_congr_left h]
  case pur x=>
   simp only[KX] at h;simp only[nU];rw[Yp h]
  case safe q x=>
   simp only[KX] at h;simp only[nU];rw[VK h]
  all_goals
   simp only[nU];rw[YW he (fun _ _ _ e=>by cases e) (fun _ _ e=>by cases e) (fun _ e=>by cases e) (fun _ _ e=>by cases e) h]
def RT(d:Nat)(i:Kw):Bool:=i.guard.isNone&&(match i.op with
 | .safe ds _=>ds.any (· == d)
 | _=>false)
def WL(i:Kw):Bool:=i.guard.isNone&&(match i.op with
 | .alloc _=>true
 | _=>false)
theorem Qf(d:Nat):∀ ob:CI,Dm d (Dm d ob)=Dm d ob
 | []=>rfl
 | p::r=>by
  have ih:=Qf d r
  by_cases c:p.1/32=d
  ·simp only[Dm,c,beq_self_eq_true,cond_true,ih]
  ·have:(p.1/32==d)=false:=by simpa using c
   simp only[Dm,this,cond_false,ih]
theorem aQ(d e:Nat):∀ ob:CI,Dm d (Dm e ob)=Dm e (Dm d ob)
 | []=>rfl
 | p::r=>by
  have ih:=aQ d e r
  by_cases c:p.1/32=d<;>by_cases c2:p.1/32=e
  ·simp only[Dm,c,c2,beq_self_eq_true,cond_true,ih];try (subst c2;subst c;simp only[beq_self_eq_true,cond_true,ih])
   try (rw[← c] at c2;simp_all)
  ·have h2:(p.1/32==e)=false:=by simpa using c2
   have h1:(p.1/32==d)=true:=by simpa using c
   simp only[Dm,h1,h2,cond_true,cond_false,ih]
  ·have h1:(p.1/32==d)=false:=by simpa using c
   have h2:(p.1/32==e)=true:=by simpa using c2
   simp only[Dm,h1,h2,cond_true,cond_false,ih]
  ·have h1:(p.1/32==d)=false:=by simpa using c
   have h2:(p.1/32==e)=false:=by simpa using c2
   simp only[Dm,h1,h2,cond_false,ih]
theorem dW{d k:Nat}{h:Hm}(hk:k/32=d):∀ ob:CI,Dm d (CR k h ob)=Dm d ob
 | []=>by simp[CR,Dm,hk]
 | p::r=>by
  have ih:=dW (h:=h) hk r;simp only[CR,AO,beq_iff_eq,dtE];split
  ·rename_i e;simp[Dm,e,hk]
  ·split
   ·simp[Dm,hk]
   ·simp only[Dm,ih]
theorem Uu{d:Nat}:∀ {ds:List Nat} (ob:CI),ds.any (· == d)=true->Jy ds (Dm d ob)=Jy ds ob
 | [],_,h=>by simp at h
 | e::r,ob,h=>by
  simp only[Jy]
  by_cases c:e=d
  ·subst c;rw[Qf]
  ·have:r.any (· == d)=true:=by
    simp only[List.any_cons,Bool.or_eq_true,beq_iff_eq] at h;exact h.resolve_left c
   rw[aQ,Uu _ this]
theorem aP{d:Nat}:∀ {ob:CI},Oh d ob=false->Dm d ob=ob
 | [],_=>rfl
 | p::r,h=>by
  simp only[Oh,Bool.or_eq_false_iff] at h;simp only[Dm,h.1,cond_false,aP h.2]
theorem AAD(s:St)(d:Nat):(clear s d).ob=Dm d s.ob:=by
 unfold Go.Proofs.YteaicgcfpcklkaaGreatDoor.clear;rw[AO];split
 ·rfl
 ·rename_i h;rw[aP (by simpa using h)]
theorem gU(d:Nat):aR d .any = .any:=by simp[aR,AV.keys]
theorem wv(ds:List Nat):NP ds .any=false:=by simp[NP,Jo]
theorem gT{d:Nat}{ds:List Nat}(hd:ds.any (· == d)=true)(a:AV):(NP ds a=true->aR d a=a)∧NP ds (aR d a)=NP ds a:=by
 unfold aR;rw[AO]
 by_cases c:a.keys.any (fun k=>k/32==d)=true
 ·have hf:NP ds a=false:=by
   rw[Bool.eq_false_iff];intro ho;rw[List.any_eq_true] at c hd;obtain⟨k,hk,e⟩:=c;obtain⟨d',hd',e'⟩:=hd;simp only[beq_iff_eq] at e e';exact jC ho hk d' hd' (by rw[e,e'])
  rw[if_pos c,wv,hf];exact⟨fun h=>Bool.noConfusion h,rfl⟩
 ·rw[if_neg c];exact⟨fun _=>rfl,rfl⟩
theorem wY(s:St)(d:Nat)(x:Src):rd (clear s d) x=rd s x∨rd (clear s d) x=aR d (rd s x):=by
 unfold Go.Proofs.YteaicgcfpcklkaaGreatDoor.clear;rw[AO];split
 ·cases x
  ·exact .inr (Bg _ (gU d) _ _)
  ·exact .inr (Bg _ (gU d) _ _)
  ·exact .inl rfl
 ·exact .inl rfl
theorem lh{s:St}{c:Bool}{v:AV}{D:Hv}{d:Nat}(hv:aR d v=v)(hp:CH D=true):clear (Ay s c v D) d=Ay (clear s d) c v D:=by
 unfold Go.Proofs.YteaicgcfpcklkaaGreatDoor.clear;rw[FN,AO,AO];split
 ·cases D<;>simp only[Ay,List.map_set,hv]
  cases hp
 ·rfl
theorem Yc{T:Il}{s:St}{i j:Kw}(hi:RT j.key i=true)(hj:WL j=true)(h1:CH i.dst=true)(h2:CH j.dst=true)(h3:OJ i.dst j.dst=false)(h5:∀ x,x∈LU i->Un j.dst x=false):
  Cp T (Cp T s i) j=Cp T (Cp T s j) i:=by
 obtain⟨D,key,gd,op⟩:=i;obtain⟨E,d,gd2,op2⟩:=j;simp only[RT,baT,Option.isNone_iff_eq_none] at hi;simp only[WL,baT,Option.isNone_iff_eq_none] at hj;obtain⟨rfl,hop⟩:=hi;obtain⟨rfl,hop2⟩:=hj;cases op<;>(try (cases hop;done))
 cases op2<;>(try (cases hop2;done))
 rename_i ds a z;simp only at hop h1 h2 h3
 have hI:∀ s:St,Cp T s ⟨D,key,none,.safe ds a⟩=Ay s (Jm T (rd s) s.ob key ds a).ok (Jm T (rd s) s.ob key ds a).v D:=fun s=>by
  simp only[Cp,Uk,CL];rw[MW ia]
 have hJ:∀ s:St,Cp T s ⟨E,d,none,.alloc z⟩=Ay { clear s d with ob:=CR (Bd d) ⟨z.cells.length,[z]⟩ (clear s d).ob } (decide (1<=z.cells.length)&&z.atoms) (.ref (Bd d) 0 0) E:=fun s=>rfl
 have hkd:Bd d/32=d:=by simp[Bd]
 have hM:Jm T (rd (Cp T s ⟨E,d,none,.alloc z⟩)) (Cp T s ⟨E,d,none,.alloc z⟩).ob key ds a=Jm T (rd s) s.ob key ds a:=by
  have hob:Jy ds (Cp T s ⟨E,d,none,.alloc z⟩).ob=Jy ds s.ob:=by
   rw[hJ,FN];show Jy ds (CR (Bd d) _ (clear s d).ob)=_;rw[← Uu _ hop,dW hkd,AAD,Qf,Uu _ hop]
  have hrd:∀ x,x∈DZ a->rd (Cp T s ⟨E,d,none,.alloc z⟩) x=rd s x∨rd (Cp T s ⟨E,d,none,.alloc z⟩) x=aR d (rd s x):=fun x hx=>by
   rw[hJ,NM h2 (h5 x (by simpa[LU,Bm] using hx))];have e:rd ({ clear s d with ob:=CR (Bd d) ⟨z.cells.length,[z]⟩ (clear s d).ob }:St) x=rd (clear s d) x:=by cases x<;>rfl
   rw[e];exact wY s d x
  unfold Jm
  have hall:((DZ a).all fun x=>NP ds (rd (Cp T s ⟨E,d,none,.alloc z⟩) x))=(DZ a).all fun x=>NP ds (rd s x):=by
   have:∀ l:List Src,(∀ x,x∈l->x∈DZ a)->(l.all fun x=>NP ds (rd (Cp T s ⟨E,d,none,.alloc z⟩) x))=l.all fun x=>NP ds (rd s x):=by
    intro l hl
    induction l with
    | nil=>rfl
    | cons y l ih=>
     simp only[List.all_cons];rw[ih fun x hx=>hl x (by simp[hx])]
     congr 1
     rcases hrd y (hl y (by simp)) with e|e
     ·rw[e]
     ·rw[e,(gT hop _).2]
   exact this _ fun x hx=>hx
  rw[hall,hob]
  by_cases hs:((DZ a).all fun x=>NP ds (rd s x))=true
  ·rw[VL (r:=rd (Cp T s ⟨E,d,none,.alloc z⟩)) (r':=rd s) fun x hx=>by
    rcases hrd x hx with e|e
    ·exact e
    ·rw[e];exact (gT hop _).1 (List.all_eq_true.1 hs x hx)]
  ·have hs':((DZ a).all fun x=>NP ds (rd s x))=false:=by simpa using hs
   rw[hs'];rfl
 have hv:aR d (Jm T (rd s) s.ob key ds a).v=(Jm T (rd s) s.ob key ds a).v:=by
  unfold Jm Yd;rw[AO];split
  ·rename_i hc;simp only[baT] at hc;exact (gT hop _).1 hc.2.2
  ·exact gU d
 rw[hI (Cp T s ⟨E,d,none,.alloc z⟩),hM,hI s,hJ,hJ,lh hv h1];have e:∀ (b:Bool) (v:AV) (ob:CI),({ Ay (clear s d) b v D with ob:=ob }:St)=Ay { clear s d with ob:=ob } b v D:=fun b v ob=>UY ob
 rw[FN,e];exact (cQ h2 h1 (by rw[QM];exact h3)).symm
def com(i j:Kw):Bool:=AFR i j&&(((Nj i&&Nj j)||(fQ i||fQ j))||((RT j.key i&&WL j)||(RT i.key j&&WL i)))
theorem AJJ{T:Il}{s:St}{i j:Kw}(h:com i j=true):Cp T (Cp T s i) j=Cp T (Cp T s j) i:=by
 simp only[com,AFR,baT,Bool.or_eq_true,Bool.not_eq_true',List.all_eq_true] at h;obtain⟨⟨h1,h2,h3,h4',h5'⟩,hh⟩:=h
 have hsub:∀ (k:Kw) x,x∈cN k->x∈LU k:=fun k x hx=>by
  unfold cN at hx;unfold LU;rcases List.mem_append.1 hx with hx|hx
  ·exact List.mem_append_left _ hx
  ·refine List.mem_append_right _ ?_;generalize k.op=a at hx;cases a<;>first|exact hx|(simp[KX,BG] at hx)
 rcases hh with (⟨h6,h7⟩|hi|hj)|⟨hi,hj⟩|⟨hj,hi⟩
 rotate_left
 ·exact (jp hi h2 h1 h3 h5' h4').symm
 ·refine jp hj h1 h2 ?_ h4' h5';rw[QM];exact h3
 ·exact Yc hi hj h1 h2 h3 h5'
 ·exact (Yc hj hi h2 h1 (by rw[QM];exact h3) h4').symm
 have h4:∀ x,x∈cN j->Un i.dst x=false:=fun x hx=>h4' x (hsub j x hx)
 have h5:∀ x,x∈cN i->Un j.dst x=false:=fun x hx=>h5' x (hsub i x hx)
 rw[PR h6,PR (s:=s) h7,PR h7,PR h6];rw[oq,oq,dS (r:=rd (Ay s _ _ i.dst)) (r':=rd s) h7 fun x hx=>NM h1 (h4 x hx),dS (r:=rd (Ay s _ _ j.dst)) (r':=rd s) h6 fun x hx=>NM h2 (h5 x hx)];exact cQ h1 h2 h3
open Go Go.RowKit
def vX(dep:Nat->Nat->Bool)(l:List Nat):Prop:=l.Pairwise fun a b=>dep b a=false
def pi(dep:Nat->Nat->Bool)(j:Nat):List Nat->List Nat->List Nat
 | acc,[]=>acc
 | acc,i::r=>pi dep j (bif dep j i||acc.any (fun k=>dep k i) then i::acc else acc) r
def mr(dep cm:Nat->Nat->Bool)(rem:List Nat)(j:Nat):Bool :=
 rem.all fun i=>i==j||((pi dep j [] rem).contains i||cm j i)
def ready(dep:Nat->Nat->Bool)(rem:List Nat):List Nat:=rem.filter fun j=>rem.all fun i=>!dep i j
def Nh(dep cm:Nat->Nat->Bool):Nat->List Nat->List (List Nat)
 | 0,_=>[[]]
 | n+1,rem=>
  match rem with
  | []=>[[]]
  | _=>match (ready dep rem).find? (mr dep cm rem) with
   | some j=>(Nh dep cm n (rem.erase j)).map (j::·)
   | none=>(ready dep rem).flatMap fun j=>(Nh dep cm n (rem.erase j)).map (j::·)
section
variable {dep cm:Nat->Nat->Bool}
theorem dV{j:Nat}{p q:List Nat}(hl:vX dep (p++j::q)):∀ (r acc:List Nat),(∀ i,i∈acc->i ∉ p∧i∈p++j::q)->(∀ i,i∈r->i∈p++j::q)->∀ i,i∈pi dep j acc r->i ∉ p
 | [],acc,ha,_,i,hi=>(ha i hi).1
 | a::r,acc,ha,hr,i,hi=>by
  simp only[pi] at hi;refine dV hl r _ (fun k hk=>?_) (fun k hk=>hr k (by simp[hk])) i hi;cases hc:dep j a||acc.any (fun k=>dep k a) with
  | false=>rw[hc] at hk;exact ha k hk
  | true=>
   rw[hc] at hk;simp only[cond_true,List.mem_cons] at hk;rcases hk with rfl|hk
   ·refine⟨fun hp=>?_,hr k (by simp)⟩;unfold vX at hl;rw[List.pairwise_append] at hl;have hcross:=hl.2.2 k hp;simp only[Bool.or_eq_true,List.any_eq_true] at hc;rcases hc with hc|⟨m,hm,hc⟩
    ·have:=hcross j (by simp);rw[hc] at this;cases this
    ·obtain⟨hmp,hmm⟩:=ha m hm
     have hmq:m∈j::q:=by
      rcases List.mem_append.1 hmm with h|h
      ·exact absurd h hmp
      ·exact h
     have:=hcross m hmq;rw[hc] at this;cases this
   ·exact ha k hk
theorem jy{σ:Type}{f:Nat->σ->σ}(hcm:∀ i j s,cm i j=true->f j (f i s)=f i (f j s))(hirr:∀ i,dep i i=false):
  ∀ (n:Nat) (rem:List Nat),rem.length<=n->rem.Nodup->∀ π,π.Perm rem->vX dep π->∃ ρ∈Nh dep cm n rem,∀ s,π.foldl (fun s i=>f i s) s=ρ.foldl (fun s i=>f i s) s:=by
 intro n
 induction n with
 | zero=>
  intro rem hn _ π hp _;have:rem=[]:=List.length_eq_zero_iff.1 (by omega);subst this;have:=hp.eq_nil;subst this;exact⟨[],by simp[Nh],fun s=>rfl⟩
 | succ n ih=>
  intro rem hn hnd π hp hl;cases rem with
  | nil=>
   have:=hp.eq_nil;subst this;exact⟨[],by simp[Nh],fun s=>rfl⟩
  | cons r0 rr=>
   have hnd':π.Nodup:=hp.nodup_iff.2 hnd;simp only[Nh];cases hfind:(ready dep (r0::rr)).find? (mr dep cm (r0::rr)) with
   | some j=>
    have hj:j∈r0::rr:=by
     have:=List.mem_of_find?_eq_some hfind;exact (List.mem_filter.1 this).1
    have hfree:=List.find?_some hfind;obtain⟨p,q,rfl⟩:=List.append_of_mem (hp.mem_iff.2 hj)
    have hjp:j ∉ p:=by
     intro c;rw[List.nodup_append] at hnd';exact hnd'.2.2 j c j (by simp) rfl
    have hcom:∀ i,i∈p->cm j i=true:=by
     intro i hi;simp only[mr,List.all_eq_true] at hfree;have hir:i∈r0::rr:=hp.mem_iff.1 (by simp[hi]);have:=hfree i hir;simp only[Bool.or_eq_true,beq_iff_eq,List.contains_eq_mem,dtE] at this;rcases this with e|e|e
     ·exact absurd hi (e▸hjp)
     ·exact absurd hi (dV hl (r0::rr) [] (fun k hk=>by simp at hk) (fun k hk=>hp.mem_iff.2 hk) i e)
     ·exact e
    have hmove:∀ (p:List Nat),(∀ i,i∈p->cm j i=true)->∀ s,f j (p.foldl (fun s i=>f i s) s)=p.foldl (fun s i=>f i s) (f j s):=by
     intro p
     induction p with
     | nil=>intro _ s;rfl
     | cons a p ihp=>
      intro hc s;simp only[List.foldl_cons];rw[ihp (fun i hi=>hc i (by simp[hi])),hcm j a s (hc a (by simp))]
    have hperm:(p++q).Perm ((r0::rr).erase j):=by
     have h1:(p++j::q).Perm (j::(p++q)):=List.perm_middle;have h2:=(h1.symm.trans hp).erase j;simpa using h2
    have hlin:vX dep (p++q):=by
     unfold vX at hl ⊢;exact hl.sublist (List.Sublist.append (List.Sublist.refl p) (List.sublist_cons_self j q))
    obtain⟨ρ,hρ,he⟩:=ih _ (by rw[List.length_erase_of_mem hj];simp at hn ⊢;omega) (hnd.erase j) (p++q) hperm hlin;refine⟨j::ρ,List.mem_map.2 ⟨ρ,hρ,rfl⟩,fun s=>?_⟩;rw[List.foldl_append,List.foldl_cons,hmove p hcom,List.foldl_cons,← he,List.foldl_append]
   | none=>
    cases π with
    | nil=>have:=hp.symm.eq_nil;cases this
    | cons j π'=>
     have hj:j∈r0::rr:=hp.mem_iff.1 (by simp)
     have hready:j∈ready dep (r0::rr):=by
      refine List.mem_filter.2 ⟨hj,List.all_eq_true.2 fun i hi=>?_⟩;have hiπ:i∈j::π':=hp.mem_iff.2 hi;rcases List.mem_cons.1 hiπ with e|hiπ
      ·rw[e,hirr];rfl
      ·unfold vX at hl;rw[List.pairwise_cons] at hl;rw[hl.1 i hiπ];rfl
     have hperm:π'.Perm ((r0::rr).erase j):=by
      have h2:=hp.erase j;simpa using h2
     have hlin:vX dep π':=by unfold vX at hl ⊢;exact (List.pairwise_cons.1 hl).2
     obtain⟨ρ,hρ,he⟩:=ih _ (by rw[List.length_erase_of_mem hj];simp at hn ⊢;omega) (hnd.erase j) π' hperm hlin;refine⟨j::ρ,List.mem_flatMap.2 ⟨j,hready,List.mem_map.2 ⟨ρ,hρ,rfl⟩⟩,fun s=>?_⟩;rw[List.foldl_cons,List.foldl_cons,he]
end
open Go Go.RowKit
def gR:Kw:=⟨.no,0,none,.mov (.c .any)⟩
def Lt(ops:Array Oper)(i j:Nat):Bool :=
 match ops[j]? with
 | some o=>o.after.any fun e=>Region.binds .any e&&e.on==i
 | none=>false
def cmOf(is:List Kw)(i j:Nat):Bool:=com (is.getD i gR) (is.getD j gR)
def AGX(vm:List Nat)(ops:Array Oper):List Nat:=((ops.toList.filterMap (·.dst)).filter fun d=>!vm.contains d).eraseDups
def dZ(P:Program)(n:Nat)(ops:Array Oper)(vm ss:List Nat)(is:List Kw)(j:Nat):Bool :=
 match ops[j]? with
 | some o=>o.after.all (fun e=>!Region.binds .any e||decide (e.on<j))&&gV P n ops vm ss o (is.getD j gR)==some ss
 | none=>false
def gW(P:Program)(n:Nat)(ops:Array Oper)(vm ss:List Nat)(k:Nat)(is:List Kw)(alts:List (List Nat)):Bool :=
 P.follows .mixedOrders&&(ss.length==k&&(ss.all (fun t=>decide (t<n))&&(is.length==ops.size&&((List.range ops.size).all (dZ P n ops vm ss is) &&
  (Nh (Lt ops) (cmOf is) ops.size (List.range ops.size)).all fun ρ=>ρ==List.range ops.size||alts.contains ρ))))
def lT (T:Il) (is:List Kw) (s:St) (l:List Nat):St:=l.foldl (fun s i=>Cp T s (is.getD i gR)) s
theorem UV{T:Il}{is:List Kw}:∀ (l:List Nat) (s:St),Ef T (UZ is l) s=lT T is s l
 | [],s=>rfl
 | i::l,s=>UV l (Cp T s (is.getD i gR))
theorem fE(is:List Kw):UZ is (List.range is.length)=is:=by
 unfold UZ;apply List.ext_getElem
 ·simp
 ·intro i h1 h2;simp[gdE,geE h2]
theorem oh{T:Il}{is:List Kw}:∀ (l:List Nat) {s:St},(lT T is s l).ok=true->s.ok=true
 | [],_,h=>h
 | i::l,s,h=>kH (oh l (s:=Cp T s (is.getD i gR)) h)
theorem ah{T:Il}{is:List Kw}{s r:St}:∀ {alts:List (List Nat)},Oy T is s r alts=true->∀ l,l∈alts->Ef T (UZ is l) s=r
 | [],_,l,h=>by simp at h
 | a::alts,h,l,hl=>by
  simp only[Oy,baT,dtE] at h;rcases List.mem_cons.1 hl with e|hl
  ·subst e;exact h.1
  ·exact ah h.2 l hl
section
variable {F Iow:Nat->Prop}{w0:World}{g0:Gh}{o0:CI}{g:Gh}{w w':World}{tmps:Array Value}{ds:List Deferred}{vm ss ss':List Nat}{s:St}{P:Program}{T:Il}
 {Q:Exit->Act->World->Prop} {ops:Array Oper} {n:Nat}
theorem FX.grow(h:FX F Iow w0 g0 o0 g w tmps vm ss s)(hw:AR (fun _=>False) w w'):FX F Iow w0 g0 o0 g w' tmps vm ss s :=
 FX.mk' (w:=w) (h.toFR.grow hw) h.same (hw.mono fun _ _ c=>c.elim) h.hio h.fio h.par
theorem FX.slots(h:FX F Iow w0 g0 o0 g w tmps vm [] s){k:Nat}(hk:ss.length=k)(hf:∀ t,t∈ss->t<tmps.size):FX F Iow w0 g0 o0 g w tmps vm ss (slots k s):=by
 refine⟨⟨h.home,h.inj,h.nF,h.fb,h.vl,by simp[Go.Proofs.YteaicgcfpcklkaaGreatDoor.slots,hk],h.vs,fun i hi=>?_,fun t ht=>?_,h.tab⟩,h.same,h.hio,h.fio,h.par⟩
 ·simp only[Go.Proofs.YteaicgcfpcklkaaGreatDoor.slots];have:(List.replicate k AV.any).getD i .any = .any:=by rw[gdE,List.getElem?_replicate];split<;>rfl
  rw[this];exact SR.any
 ·rcases ht with ht|ht
  ·exact h.fit t (.inl ht)
  ·exact hf t ht
theorem AAa(hT:Ix P T)(hnd:Ns vm){is:List Kw}(hchk:∀ j,j<ops.size->dZ P n ops vm ss is j=true){r:St}(hrok:r.ok=true)
  (hQ:∀ tmps' w' g',tmps'.size=n->FX F Iow w0 g0 o0 g' w' tmps' vm ss r->Q .normal ⟨tmps',ds⟩ w') :
  ∀ (fuel:Nat) (rem:List Nat) (listed:Array Bool) {s:St} {g:Gh} {w:World} {tmps:Array Value},rem.Pairwise (· < ·)->(∀ i,i∈rem->i<ops.size)->listed.size=ops.size->(∀ i,i<ops.size->(listed.getD i true=true ↔ i ∉ rem))->rem.length<=fuel ->
   (∀ π,π.Perm rem->vX (Lt ops) π->lT T is s π=r)->FX F Iow w0 g0 o0 g w tmps vm ss s->tmps.size=n->wpAny P .any ops Q fuel listed ⟨tmps,ds⟩ w:=by
 have hdep:∀ i j,Lt ops i j=true->i<j:=by
  intro i j hd;unfold Lt at hd;split at hd
  ·rename_i o ho
   have hj:j<ops.size:=by
    rcases Nat.lt_or_ge j ops.size with h' | h'
    ·exact h'
    ·rw[Array.getElem?_eq_none h'] at ho;cases ho
   have hc:=hchk j hj;unfold dZ at hc;rw[ho] at hc;simp only[baT,Array.all_eq_true,Array.any_eq_true] at hc hd;obtain⟨x,hx,hb,he⟩:=hd;have:=hc.1 x hx;simp only[Bool.or_eq_true,Bool.not_eq_true',dtE,beq_iff_eq] at this he;rcases this with e|e
   ·rw[hb] at e;cases e
   ·omega
  ·cases hd
 have hlinS:∀ (l:List Nat),l.Pairwise (· < ·)->vX (Lt ops) l:=fun l hl=>hl.imp fun {a b} hab=>by
  cases hd:Lt ops b a with
  | false=>rfl
  | true=>have:=hdep b a hd;omega
 have hready:∀ (rem:List Nat) (listed:Array Bool),(∀ i,i∈rem->i<ops.size)->listed.size=ops.size->(∀ i,i<ops.size->(listed.getD i true=true ↔ i ∉ rem))->∀ i,i∈Region.ready .any ops listed->i∈rem∧∀ k,k∈rem->Lt ops k i=false:=by
  intro rem listed hb hsz hl i hi;obtain⟨h1,h2⟩:=List.mem_filter.1 hi;have hiN:i<ops.size:=by simpa using h1
  simp only[baT,Bool.not_eq_true',Array.getElem?_eq_getElem hiN,Option.map_some,Option.getD_some,Array.all_eq_true] at h2;obtain⟨h3,h4⟩:=h2;refine⟨?_,fun k hk=>?_⟩
  ·by_cases hm:i∈rem
   ·exact hm
   ·have:=(hl i hiN).2 hm;rw[h3] at this;cases this
  ·cases hd:Lt ops k i with
   | false=>rfl
   | true=>
    unfold Lt at hd;rw[Array.getElem?_eq_getElem hiN] at hd;simp only[Array.any_eq_true,baT,beq_iff_eq] at hd;obtain⟨x,hx,hbd,he⟩:=hd;have h5:=h4 x hx;rw[hbd,he] at h5;simp only[Bool.not_true,Bool.false_or] at h5;have hkN:=hb k hk
    have h6:listed.getD k true=true:=by
     rw[← h5,agD,agD,Array.getElem?_eq_getElem (by omega)];rfl
    exact absurd hk ((hl k hkN).1 h6)
 have hsome:∀ (rem:List Nat) (listed:Array Bool),rem.Pairwise (· < ·)->(∀ i,i∈rem->i<ops.size)->listed.size=ops.size->(∀ i,i<ops.size->(listed.getD i true=true ↔ i ∉ rem))->Region.ready .any ops listed=[]->rem=[]:=by
  intro rem listed hs hb hsz hl h0;cases rem with
  | nil=>rfl
  | cons a r=>
   exfalso;have haN:=hb a (by simp);have hc:=hchk a haN;unfold dZ at hc;rw[Array.getElem?_eq_getElem haN] at hc;simp only[baT,Array.all_eq_true] at hc
   have hmem:a∈Region.ready .any ops listed:=by
    refine List.mem_filter.2 ⟨by simpa using haN,?_⟩;simp only[baT,Bool.not_eq_true',Array.getElem?_eq_getElem haN,Option.map_some,Option.getD_some,Array.all_eq_true];refine⟨?_,fun x hx=>?_⟩
    ·cases hla:listed.getD a true with
     | false=>rfl
     | true=>exact absurd (List.mem_cons_self) ((hl a haN).1 hla)
    ·have h5:=hc.1 x hx;simp only[Bool.or_eq_true,Bool.not_eq_true',dtE] at h5 ⊢;refine h5.imp id fun hlt=>?_
     have hk:(ops[a].after[x]).on<ops.size:=by omega
     have hnm:(ops[a].after[x]).on ∉ a::r:=by
      intro hm;rcases List.mem_cons.1 hm with e|hm
      ·omega
      ·have:=(List.pairwise_cons.1 hs).1 _ hm;omega
     have h6:=(hl _ hk).2 hnm;rw[← h6,agD,agD,Array.getElem?_eq_getElem (by omega)];rfl
   rw[h0] at hmem;simp at hmem
 intro fuel
 induction fuel with
 | zero=>
  intro rem listed s g w tmps hs hb hsz hl hf H hfx hn;have hr0:rem=[]:=List.length_eq_zero_iff.1 (by omega);subst hr0;have e:=H [] (List.Perm.refl _) List.Pairwise.nil;have e':s=r:=e;subst e';refine⟨?_,hQ _ _ _ hn hfx⟩;rw[List.eq_nil_iff_forall_not_mem];intro i hi;exact absurd (hready [] listed hb hsz hl i hi).1 (by simp)
 | succ fuel ih=>
  intro rem listed s g w tmps hs hb hsz hl hf H hfx hn;refine⟨fun h0=>?_,fun i hi=>?_⟩
  ·have hr0:=hsome rem listed hs hb hsz hl h0;subst hr0;have e:=H [] (List.Perm.refl _) List.Pairwise.nil;have e':s=r:=e;subst e';exact hQ _ _ _ hn hfx
  ·obtain⟨him,hdi⟩:=hready rem listed hb hsz hl i hi;have hiN:=hb i him;have hc:=hchk i hiN;unfold dZ at hc;rw[Array.getElem?_eq_getElem hiN] at hc;simp only[baT,beq_iff_eq] at hc;have hnodup:rem.Nodup:=hs.imp fun {a b} h=>Nat.ne_of_lt h
   have hes:(rem.erase i).Pairwise (· < ·):=hs.sublist List.erase_sublist;have hlin:∀ π,π.Perm (rem.erase i)->vX (Lt ops) π->vX (Lt ops) (i::π):=fun π hp hl=>List.pairwise_cons.2 ⟨fun k hk=>hdi k (List.mem_of_mem_erase (hp.mem_iff.1 hk)),hl⟩
   have hperm:∀ π,π.Perm (rem.erase i)->(i::π).Perm rem:=fun π hp=>(hp.cons i).trans (List.perm_cons_erase him).symm
   have hok:(Cp T s (is.getD i gR)).ok=true:=by
    have e:=H (i::rem.erase i) (hperm _ (List.Perm.refl _)) (hlin _ (List.Perm.refl _) (hlinS _ hes));refine oh (T:=T) (is:=is) (rem.erase i) ?_;have e2:lT T is (Cp T s (is.getD i gR)) (rem.erase i)=r:=e;rw[e2];exact hrok
   have hstep:=je (ds:=ds) (Q:=Q) (K:=wpAny P .any ops Q fuel (listed.setIfInBounds i true)) hT hfx hnd hn hc.2 hok fun tmps' w' g' hn' hfx'=>?_
   ·unfold wpOp;rw[Array.getElem?_eq_getElem hiN];simp only;split
    ·rename_i hw;rw[if_pos hw] at hstep;exact .inl hstep
    ·rename_i hw;rw[if_neg hw] at hstep;exact hstep
   ·refine ih (rem.erase i) _ hes (fun k hk=>hb k (List.mem_of_mem_erase hk)) (by simpa using hsz) (fun k hk=>?_) (by rw[List.length_erase_of_mem him];omega) (fun π hp hl=>H (i::π) (hperm π hp) (hlin π hp hl)) hfx' hn';rw[hnodup.mem_erase_iff]
    by_cases e:i=k
    ·subst e;simp[agD,hsz,hiN]
    ·rw[agD,Array.getElem?_setIfInBounds_ne e,← agD,hl k hk];simp[Ne.symm e]
theorem AAb(hT:Ix P T)(hnd:Ns vm){k id:Nat}{is:List Kw}{alts:List (List Nat)}(hc:gW P n ops vm ss k is alts=true)(h:FX F Iow w0 g0 o0 g w tmps vm [] s)(hn:tmps.size=n)(hok:(TG T k is alts s).ok=true)
  (hQ:∀ tmps' w' g',tmps'.size=n->FX F Iow w0 g0 o0 g' w' tmps' vm ss (TG T k is alts s)->Q .normal ⟨tmps',ds⟩ w'):(Code.region id ops true).wp P Q ⟨tmps,ds⟩ w:=by
 simp only[gW,baT,beq_iff_eq,List.all_eq_true,dtE,Bool.or_eq_true,List.contains_eq_mem,List.mem_range] at hc;obtain⟨hm,hk,hss,hil,hat,hex⟩:=hc
 have hboth:(Ef T is (slots k s)).ok=true∧Oy T is (slots k s) (Ef T is (slots k s)) alts=true:=by
  simpa[TG,pq] using hok
 have hdr:({ w with drawn:=w.drawn+1 }:World)=w.drew:=rfl;have hfx:=(h.slots (ss:=ss) hk (fun t ht=>by rw[hn];exact hss t ht)).grow (w':={ w with drawn:=w.drawn+1 }) (by rw[hdr];exact AR.drew _ _)
 have hrange:lT T is (slots k s) (List.range ops.size)=Ef T is (slots k s):=by
  rw[← UV,← hil,fE]
 refine wp_region_any hm (AAa hT hnd (is:=is) (r:=Ef T is (slots k s)) (fun j hj=>hat j hj) hboth.1 (fun tmps' w' g' hn' hf=>hQ tmps' w' g' hn' ?_) ops.size (List.range ops.size) _ List.pairwise_lt_range (fun i hi=>by simpa using hi) (by simp) (fun i hi=>?_) (by simp) (fun π hp hl=>?_) hfx hn)
 ·exact hf.setOk _
 ·simp[agD,hi]
 ·have hirr:∀ i,Lt ops i i=false:=by
   intro i;cases hd:Lt ops i i with
   | false=>rfl
   | true=>
    unfold Lt at hd;split at hd
    ·rename_i o ho
     have hj:i<ops.size:=by
      rcases Nat.lt_or_ge i ops.size with h' | h'
      ·exact h'
      ·rw[Array.getElem?_eq_none h'] at ho;cases ho
     have hc:=hat i hj;unfold dZ at hc;rw[ho] at hc;simp only[baT,Array.all_eq_true,Array.any_eq_true] at hc hd;obtain⟨x,hx,hb,he⟩:=hd;have:=hc.1 x hx;simp only[Bool.or_eq_true,Bool.not_eq_true',dtE,beq_iff_eq] at this he;rcases this with e|e
     ·rw[hb] at e;cases e
     ·omega
    ·cases hd
  obtain⟨ρ,hρ,he⟩:=jy (f:=fun i s=>Cp T s (is.getD i gR)) (fun i j s hcm=>AJJ hcm) hirr ops.size (List.range ops.size) (by simp) List.nodup_range π hp hl;have h1:lT T is (slots k s) π=lT T is (slots k s) ρ:=he _;rw[h1];rcases hex ρ hρ with e|e
  ·rw[e];exact hrange
  ·rw[← UV];exact ah hboth.2 ρ e
end
def nY(P:Program)(n:Nat)(vm:List Nat):Code->IR->Bool
 | .skip,.skip=>true
 | .label _,.skip=>true
 | .region _ ops false,.region false is=>(Lu P n ops vm [] ops.toList is).isSome
 | .seq (.region _ ops false) (.cond c a b),.test false is c' a' b'=>(match Lu P n ops vm [] ops.toList is with
  | some ss=>BL vm ss c c'
  | none=>false)&&(nY P n vm a a'&&nY P n vm b b')
 | .region _ ops true,.anyo k is alts .skip=>gW P n ops vm (AGX vm ops) k is alts
 | .seq (.region _ ops true) (.cond c a b),.anyo k is alts (.cond c' a' b')=>gW P n ops vm (AGX vm ops) k is alts&&(BL vm (AGX vm ops) c c'&&(nY P n vm a a'&&nY P n vm b b'))
 | .seq a b,.seq a' b'=>nY P n vm a a'&&nY P n vm b b'
 | .cond c a b,.cond c' a' b'=>BL vm [] c c'&&(nY P n vm a a'&&nY P n vm b b')
 | .block i a,.block j a'=>i==j&&nY P n vm a a'
 | .loop a,.loop keep out rt a'=>keep.length==vm.length&&(out.length==vm.length&&(rt.length==vm.length&&nY P n vm a a'))
 | .exit i,.exit j=>i==j
 | .ret,.ret=>true
 | c,.mask m a'=>m.length==vm.length&&nY P n vm c a'
 | _,_=>false
def UI:Ex->Exit
 | .norm=>.normal
 | .exit id=>.exit id
 | .ret=>.ret
theorem AAG{s:St}:(kQ s).ok=s.ok:=by
 unfold kQ;cases s.ob<;>rfl
theorem Hx{m:List Bool}{s:St}:(keepS m s).ok=s.ok:=by
 unfold keepS;rw[AAG];rfl
theorem Ue{m:List Bool}{r:Fw}(h:(RP m r).2.ok=true):r.2.ok=true:=by
 obtain⟨e,s⟩:=r;cases e
 ·simpa only[RP,Hx] using h
 ·exact h
 ·exact h
theorem RS{f:St->Fw}{keep ot rt:List Bool}(hf:∀ s,(f s).2.ok=true->s.ok=true):∀ n s,(CV f keep ot rt n s).2.ok=true->s.ok=true
 | 0,s,h=>by simp[CV,fail] at h
 | n+1,s,h=>by
  simp only[CV] at h;have ih:=RS (keep:=keep) (ot:=ot) (rt:=rt) hf n;revert h;have h2:=hf s;generalize f s=r at h2;intro h;obtain⟨e,s'⟩:=r;cases e
  ·simp only[Ic,IZ] at h;have h3:=ih _ h;rw[Hx] at h3;exact h2 h3
  ·simp only[Ic,IZ,Hx] at h;exact h2 h
  ·simp only[Ic,IZ,Hx] at h;exact h2 h
theorem pp{T:Il}{k:Nat}{is:List Kw}{alts:List (List Nat)}{s:St}(h:(TG T k is alts s).ok=true):(Ef T is (slots k s)).ok=true∧Oy T is (slots k s) (Ef T is (slots k s)) alts=true:=by
 simpa[TG,pq] using h
theorem DV{T:Il}{L:Nat}:∀ (ir:IR) {s:St},(Aq T L ir s).2.ok=true->s.ok=true
 | .skip,_,h=>h
 | .region _ is,s,h=>LC is (s:=s) h
 | .test _ is c a b,s,h=>by
  simp only[Aq,Qq] at h;refine LC (T:=T) is (s:=s) ?_;cases hv:rd (Ef T is s) c<;>rw[hv] at h<;>simp only[LW,fail] at h<;>(try (cases h;done))
  split at h
  ·have h3:=DV a h;exact h3
  ·have h3:=DV b h;exact h3
 | .anyo k is alts .skip,s,h=>by
  simp only[Aq] at h;have h3:=LC (T:=T) is (s:=slots k s) (pp (s:=s) h).1;exact h3
 | .anyo k is alts (.cond c a b),s,h=>by
  simp only[Aq,Qq] at h
  have h2:(TG T k is alts s).ok=true:=by
   cases hv:rd (TG T k is alts s) c<;>rw[hv] at h<;>simp only[LW,fail] at h<;>(try (cases h;done))
   split at h
   ·have h3:=DV a h;exact h3
   ·have h3:=DV b h;exact h3
  have h3:=LC (T:=T) is (s:=slots k s) (pp h2).1;exact h3
 | .anyo k is alts (.region _ _),s,h=>by simp[Aq,fail] at h
 | .anyo k is alts (.test _ _ _ _ _),s,h=>by simp[Aq,fail] at h
 | .anyo k is alts (.anyo _ _ _ _),s,h=>by simp[Aq,fail] at h
 | .anyo k is alts (.seq _ _),s,h=>by simp[Aq,fail] at h
 | .anyo k is alts (.block _ _),s,h=>by simp[Aq,fail] at h
 | .anyo k is alts (.loop _ _ _ _),s,h=>by simp[Aq,fail] at h
 | .anyo k is alts (.mask _ _),s,h=>by simp[Aq,fail] at h
 | .anyo k is alts (.exit _),s,h=>by simp[Aq,fail] at h
 | .anyo k is alts .ret,s,h=>by simp[Aq,fail] at h
 | .seq a b,s,h=>by
  simp only[Aq] at h;have ha:=@DV T L a s;revert h ha;generalize Aq T L a s=r;intro h ha;obtain⟨e,s'⟩:=r;cases e
  ·have h3:=DV b h;exact ha h3
  ·exact ha h
  ·exact ha h
 | .cond c a b,s,h=>by
  simp only[Aq] at h;cases hv:rd s c<;>rw[hv] at h<;>simp only[LW,fail] at h<;>(try (cases h;done))
  split at h
  ·have h3:=DV a h;exact h3
  ·have h3:=DV b h;exact h3
 | .block id a,s,h=>by
  simp only[Aq] at h;have ha:=@DV T L a s;revert h ha;generalize Aq T L a s=r;intro h ha;obtain⟨e,s'⟩:=r;cases e
  ·exact ha h
  ·refine ha ?_;simp only[Oe] at h;rw[AO] at h;split at h<;>exact h
  ·exact ha h
 | .loop keep out rt a,s,h=>by
  simp only[Aq] at h;have:=RS (f:=Aq T L a) (keep:=keep) (fun s h=>DV a h) L (keepS keep s) h
  rwa [Hx] at this
 | .mask m a,s,h=>by
  simp only[Aq] at h;exact DV a (Ue h)
 | .exit _,_,h=>h
 | .ret,_,h=>h
theorem QU:∀ (m:List Bool) (tm:List AV),m.length=tm.length->(Hl m tm).length=tm.length
 | [],[],_=>rfl
 | [],_::_,h=>by simp at h
 | _::_,[],h=>by simp at h
 | b::m,a::tm,h=>by cases b<;>simp[Hl,QU m tm (by simpa using h)]
theorem ZE:∀ (m:List Bool) (tm:List AV) (i:Nat),(Hl m tm).getD i .any = .any∨(Hl m tm).getD i .any=tm.getD i .any
 | [],_,i=>.inl (by simp[Hl])
 | _::_,[],i=>.inl (by simp[Hl])
 | b::m,a::tm,0=>by cases b<;>simp[Hl]
 | b::m,a::tm,i+1=>by
  have:=ZE m tm i;cases b<;>simpa[Hl] using this
theorem NY(tm:List AV)(k:Nat):∀ ob:CI,AK k (OQ tm ob)=if tm.any (fun a=>a.names k)=true then AK k ob else none
 | []=>by simp[OQ,AK]
 | p::r=>by
  have ih:=NY tm k r;simp only[OQ,AO]
  by_cases h:tm.any (fun a=>a.names p.1)=true
  ·rw[if_pos h];simp only[AK,AO,beq_iff_eq]
   by_cases e:p.1=k
   ·subst e;simp[h]
   ·simp only[if_neg e,ih]
  ·rw[if_neg h,ih];simp only[AK,AO,beq_iff_eq]
   by_cases e:p.1=k
   ·subst e;simp[h]
   ·simp only[if_neg e]
theorem yb{p:Nat->Prop}:∀ m,p m->∃ m,p m∧∀ k,p k->m<=k:=by
 intro m
 induction m using Nat.strongRecOn with
 | _ m ih=>
  intro h
  by_cases hx:∃ k,k<m∧p k
  ·obtain⟨k,hk,hp⟩:=hx;exact ih k hk hp
  ·refine⟨m,h,fun k hp=>?_⟩;rcases Nat.lt_or_ge k m with hlt|hge
   ·exact absurd ⟨k,hlt,hp⟩ hx
   ·exact hge
def NX (p:Nat->Prop):Nat:=Classical.epsilon fun m=>p m∧∀ k,p k->m<=k
theorem Ko{p:Nat->Prop}(h:∃ m,p m):p (NX p)∧∀ k,p k->NX p<=k:=by
 obtain⟨m,hm⟩:=h;exact Classical.epsilon_spec (yb m hm)
section
variable {F Iow:Nat->Prop}{w0:World}{g0:Gh}{o0:CI}{g:Gh}{w w':World}{tmps:Array Value}{ds:List Deferred}{vm ss ss':List Nat}{s:St}{P:Program}{T:Il}
 {Q:Exit->Act->World->Prop} {ops:Array Oper} {n:Nat}
theorem FX.drop(h:FX F Iow w0 g0 o0 g w tmps vm ss s):FX F Iow w0 g0 o0 g w tmps vm [] (drop s) :=
 ⟨⟨h.home,h.inj,h.nF,h.fb,h.vl,rfl,h.vs,fun i hi=>by simp at hi,fun t ht=>h.fit t (by rcases ht with ht|ht;exact .inl ht;simp at ht),h.tab⟩,h.same,h.hio,h.fio,h.par⟩
theorem FX.keepB(h:FX F Iow w0 g0 o0 g w tmps vm [] s){m:List Bool}(hm:m.length=vm.length):FX F Iow w0 g0 o0 g w tmps vm [] (keepB m s):=by
 have hget:∀ k hm',AK k (Go.Proofs.YteaicgcfpcklkaaGreatDoor.keepB m s).ob=some hm'->AK k s.ob=some hm':=by
  intro k hm' hg;simp only[Go.Proofs.YteaicgcfpcklkaaGreatDoor.keepB,NY] at hg;split at hg
  ·exact hg
  ·cases hg
 have hin:∀ k,Ih (Go.Proofs.YteaicgcfpcklkaaGreatDoor.keepB m s).ob k->Ih s.ob k:=fun k ⟨hm',hg⟩=>⟨hm',hget k hm' hg⟩
 have hlen:m.length=s.vs.length:=by rw[hm,h.vl]
 refine⟨⟨fun k hm' hg=>(h.home k hm' (hget k hm' hg)).mono (AR.refl _ _) (fun _=>rfl) fun b _ c=>Gn hin c,fun k k' a b=>h.inj k k' ⟨hin k a.1,a.2⟩ ⟨hin k' b.1,b.2⟩,fun k a=>h.nF k ⟨hin k a.1,a.2⟩,h.fb,
  by simp[Go.Proofs.YteaicgcfpcklkaaGreatDoor.keepB,QU m s.vs hlen,h.vl],rfl,fun i hi=>?_,fun i hi=>by simp at hi,h.fit,h.tab.mono (AR.refl _ _) fun b _ c=>Gn hin c⟩,h.same,fun k hk=>h.hio k ⟨hin k hk.1,hk.2⟩,h.fio,h.par.sub hget⟩
 rcases ZE m s.vs i with e|e
 ·simp only[Go.Proofs.YteaicgcfpcklkaaGreatDoor.keepB];rw[e];exact SR.any
 ·have hmem:(Hl m s.vs).getD i .any∈Hl m s.vs:=by
   have:i<(Hl m s.vs).length:=by rw[QU m s.vs hlen,h.vl];exact hi
   rw[gdE,geE this];exact List.getElem_mem this
  have h1:=h.vs i hi;simp only[Go.Proofs.YteaicgcfpcklkaaGreatDoor.keepB];rw[← e] at h1;refine h1.mono (AR.refl _ _) (fun b _ c=>Gn hin c) fun k hk hm' hg=>⟨hm',?_,rfl,rfl,rfl,rfl⟩
  rw[NY,if_pos (List.any_eq_true.2 ⟨_,hmem,JW.2 hk⟩)];exact hg
theorem gQ{k:Nat}:∀ (l seen:List Nat),k∈ddp seen l ↔ k∈l∧k ∉ seen
 | [],seen=>by simp[ddp]
 | x::r,seen=>by
  simp only[ddp,AO]
  by_cases h:(seen.any fun y=>y==x)=true
  ·rw[if_pos h,gQ r seen];have hx:x∈seen:=by simpa using h
   simp only[List.mem_cons];constructor
   ·rintro⟨a,b⟩;exact⟨.inr a,b⟩
   ·rintro⟨a|a,b⟩
    ·subst a;exact absurd hx b
    ·exact⟨a,b⟩
  ·rw[if_neg h];have hx:x ∉ seen:=by simpa using h
   simp only[List.mem_cons,gQ r (x::seen),not_or];constructor
   ·rintro (a|⟨a,b,c⟩)
    ·subst a;exact⟨.inl rfl,hx⟩
    ·exact⟨.inr a,c⟩
   ·rintro⟨a|a,b⟩
    ·exact .inl a
    ·by_cases e:k=x
     ·exact .inl e
     ·exact .inr ⟨a,e,b⟩
theorem nd(j x:Nat):Ux j x%32=31 ↔ x%32=31:=by
 unfold Ux;rw[AO];split
 ·rfl
 ·rename_i h;simp only[beq_iff_eq] at h;omega
theorem PK:∀ (ks:List Nat) (j k:Nat),oj ks j k%32=31 ↔ k%32=31
 | [],_,_=>Iff.rfl
 | x::r,j,k=>by
  simp only[oj,AO,beq_iff_eq];split
  ·rename_i e;subst e;exact nd j k
  ·exact PK r (j+1) k
theorem WH:∀ (ks:List Nat) (j k:Nat),k%32=31->oj ks j k=k
 | [],_,_,_=>rfl
 | x::r,j,k,h=>by
  simp only[oj,AO,beq_iff_eq];split
  ·rename_i e;subst e;unfold Ux;rw[AO,if_pos (by simpa using h)]
  ·exact WH r (j+1) k h
theorem lU:∀ (ks:List Nat) (j k:Nat),k∈ks->k%32≠31->∃ i,j<=i∧oj ks j k=32*(100000+i)∧∃ h:i-j<ks.length,ks[i-j]'h=k
 | [],_,_,h,_=>by simp at h
 | x::r,j,k,h,hm=>by
  simp only[oj,AO,beq_iff_eq]
  by_cases e:k=x
  ·subst e;rw[if_pos rfl];refine⟨j,Nat.le_refl _,?_,by simp,by simp⟩;unfold Ux;rw[AO,if_neg (by simpa using hm)]
  ·rw[if_neg e];rcases List.mem_cons.1 h with h' | h'
   ·exact absurd h' e
   ·obtain⟨i,h1,h2,h3,h4⟩:=lU r (j+1) k h' hm;refine⟨i,by omega,h2,?_,?_⟩
    ·simp only[List.length_cons];omega
    ·have:i-j=(i-(j+1))+1:=by omega
     simp only[this,List.getElem_cons_succ,h4]
theorem ABk{ks:List Nat}{k k':Nat}(h:k∈ks)(h':k'∈ks)(e:oj ks 0 k=oj ks 0 k'):k=k':=by
 by_cases hm:k%32=31
 ·have hm':k'%32=31:=by rw[← PK ks 0 k',← e,PK];exact hm
  rwa [WH _ _ _ hm,WH _ _ _ hm'] at e
 ·have hm':k'%32≠31:=fun c=>hm (by rw[← PK ks 0 k,e,PK];exact c)
  obtain⟨i,_,a1,a2,a3⟩:=lU ks 0 k h hm;obtain⟨i',_,b1,b2,b3⟩:=lU ks 0 k' h' hm';have:i=i':=by omega
  subst this;exact a3.symm.trans b3
theorem im{π:Nat->Nat}{ob:CI}:∀ (ks:List Nat),(∀ k k',k∈ks->k'∈ks->π k=π k'->k=k')->∀ j h,AK j (ey π ob ks)=some h->∃ k,k∈ks∧j=π k∧AK k ob=some h
 | [],_,j,h,e=>by simp[ey,AK] at e
 | k::r,hi,j,h,e=>by
  have ih:=im (ob:=ob) r (fun a b ha hb=>hi a b (by simp[ha]) (by simp[hb])) j h;simp only[ey] at e;cases ho:AK k ob with
  | none=>
   rw[ho] at e;obtain⟨a,h1,h2,h3⟩:=ih e;exact⟨a,by simp[h1],h2,h3⟩
  | some hm=>
   rw[ho] at e;simp only[cM,BF] at e;split at e
   ·rename_i e1;cases e
    exact⟨k,by simp,e1.symm,ho⟩
   ·obtain⟨a,h1,h2,h3⟩:=ih e;exact⟨a,by simp[h1],h2,h3⟩
theorem il{π:Nat->Nat}{ob:CI}:∀ (ks:List Nat),(∀ k k',k∈ks->k'∈ks->π k=π k'->k=k')->∀ k h,k∈ks->AK k ob=some h->AK (π k) (ey π ob ks)=some h
 | [],_,k,h,hk,_=>by simp at hk
 | x::r,hi,k,h,hk,ho=>by
  have ih:=il (ob:=ob) r (fun a b ha hb=>hi a b (by simp[ha]) (by simp[hb])) k h;simp only[ey]
  by_cases e:k=x
  ·subst e;rw[ho];simp[cM,BF]
  ·have hk':k∈r:=by
    rcases List.mem_cons.1 hk with c|c
    ·exact absurd c e
    ·exact c
   cases hx:AK x ob with
   | none=>exact ih hk' ho
   | some hm=>
    simp only[cM,BF];rw[if_neg fun c=>e (hi k x (by simp[hk']) (by simp) c.symm)];exact ih hk' ho
theorem MO.re{S S':Nat->Prop}{w:World}{g g':Gh}{ob ob':CI}{π:Nat->Nat}(hS:∀ b,S' b->S b){v:Value}{a:AV}
  (hk:∀ k,k∈a.key1->∀ h,AK k ob=some h->AK (π k) ob'=some h∧g'.β (π k)=g.β k∧g'.cap (π k)=g.cap k) (h:MO S w g ob v a):MO S' w g' ob' v (a.re1 π):=by
 cases a
 case own k=>
  obtain⟨hm,ho,hv⟩:=h;obtain⟨e1,e2,e3⟩:=hk k (by simp[AV.key1]) hm ho;exact⟨hm,e1,by rw[e2,e3];exact hv⟩
 case ref k i off=>
  obtain⟨hm,ho,hi,rfl⟩:=h;obtain⟨e1,e2,_⟩:=hk k (by simp[AV.key1]) hm ho;exact⟨hm,e1,hi,by rw[e2]⟩
 all_goals exact VR.mono (AR.refl _ _) (fun b _ c=>hS b c) h
theorem Nf(π:Nat->Nat)(l:List AV)(i:Nat):(l.map (AV.re1 π)).getD i .any=AV.re1 π (l.getD i .any):=Bg _ rfl l i
theorem SR.re{S S':Nat->Prop}{w:World}{g g':Gh}{ob ob':CI}{π:Nat->Nat}(hS:∀ b,S' b->S b){v:Value}{a:AV}
  (hk:∀ k,k∈a.keys->∀ h,AK k ob=some h->AK (π k) ob'=some h∧g'.β (π k)=g.β k∧g'.cap (π k)=g.cap k) (h:SR S w g ob v a):SR S' w g' ob' v (a.re π):=by
 cases a
 case fn f a1 a2=>
  obtain⟨v1,v2,rfl,n1,n2,h1,h2⟩:=h;refine⟨v1,v2,rfl,by simp[n1],by simp[n2],fun j hj=>?_,fun j hj=>?_⟩
  ·rw[Nf];refine (h1 j (by simpa using hj)).re hS fun k hkk=>hk k ?_
   simp only[AV.keys,List.flatMap_append,List.mem_append];exact .inl (Cc (by simpa using hj) hkk)
  ·rw[Nf];refine (h2 j (by simpa using hj)).re hS fun k hkk=>hk k ?_
   simp only[AV.keys,List.flatMap_append,List.mem_append];exact .inr (Cc (by simpa using hj) hkk)
 case tup as=>
  obtain⟨vs,rfl,n,h1⟩:=h;refine⟨vs,rfl,by simp[n],fun j hj=>?_⟩;rw[Nf];exact (h1 j (by simpa using hj)).re hS fun k hkk=>hk k (Cc (by simpa using hj) hkk)
 case opt b a=>
  simp only[SR,AV.re] at h ⊢;split at h
  ·rename_i hb;rw[if_pos hb];exact h.re hS hk
  ·rename_i hb;rw[if_neg hb];exact h
 case own k=>exact MO.re (w:=w) (a:=.own k) hS (fun k' hk'=>hk k' (by simpa[AV.keys,AV.key1] using hk')) h
 case ref k i off=>exact MO.re (w:=w) (a:=.ref k i off) hS (fun k' hk'=>hk k' (by simpa[AV.keys,AV.key1] using hk')) h
 all_goals exact VR.mono (AR.refl _ _) (fun b _ c=>hS b c) h
theorem FX.canonK(h:FX F Iow w0 g0 o0 g w tmps vm [] s){ks:List Nat}(hks:∀ k,Ih s.ob k->k∈ks):∃ g',FX F Iow w0 g0 o0 g' w tmps vm [] (canonK s ks):=by
 have hinj:=@ABk ks
 let π:=oj ks 0
 let σ:Nat->Nat:=fun j=>Classical.epsilon fun k=>k∈ks∧π k=j
 have hσ:∀ k,k∈ks->σ (π k)=k:=by
  intro k hk;have:=Classical.epsilon_spec (p:=fun k'=>k'∈ks∧π k'=π k) ⟨k,hk,rfl⟩;exact hinj this.1 hk this.2
 have hget:∀ j hm,AK j (Go.Proofs.YteaicgcfpcklkaaGreatDoor.canonK s ks).ob=some hm->∃ k,k∈ks∧j=π k∧AK k s.ob=some hm:=fun j hm hg=>im ks (fun _ _=>hinj) j hm hg
 have hhas:∀ k hm,AK k s.ob=some hm->AK (π k) (Go.Proofs.YteaicgcfpcklkaaGreatDoor.canonK s ks).ob=some hm:=fun k hm hg=>il ks (fun _ _=>hinj) k hm (hks k ⟨hm,hg⟩) hg
 let g':Gh:=⟨fun j=>g.β (σ j),fun j=>g.cap (σ j)⟩
 have hliv:∀ j,KW g' (Go.Proofs.YteaicgcfpcklkaaGreatDoor.canonK s ks).ob j->KW g s.ob (σ j)∧j=π (σ j):=by
  rintro j ⟨⟨hm,hg⟩,hc⟩;obtain⟨k,hk,rfl,ho⟩:=hget j hm hg;refine⟨⟨⟨hm,?_⟩,hc⟩,?_⟩
  ·rw[hσ k hk];exact ho
  ·rw[hσ k hk]
 have hS:∀ b,AW F g' (Go.Proofs.YteaicgcfpcklkaaGreatDoor.canonK s ks).ob b->AW F g s.ob b:=by
  rintro b (hb|⟨j,hj,e⟩)
  ·exact .inl hb
  ·exact .inr ⟨σ j,(hliv j hj).1,e⟩
 refine⟨g',⟨fun j hm hg=>?_,fun j j' a b e=>?_,fun j a=>h.nF (σ j) (hliv j a).1,h.fb,by simpa[Go.Proofs.YteaicgcfpcklkaaGreatDoor.canonK] using h.vl,rfl,fun i hi=>?_,fun i hi=>by simp at hi,h.fit,h.tab.mono (AR.refl _ _) fun b _ c=>hS b c⟩,h.same,fun j hj=>h.hio (σ j) (hliv j hj).1,h.fio,fun j hm hj hg=>?_⟩
 ·obtain⟨k,hk,rfl,ho⟩:=hget j hm hg;have:=h.home k hm ho;have e1:g'.β (π k)=g.β k:=by simp only[g'];rw[hσ k hk]
  have e2:g'.cap (π k)=g.cap k:=by simp only[g'];rw[hσ k hk]
  rw[e1,e2];exact this.mono (AR.refl _ _) (fun _=>rfl) fun b _ c=>hS b c
 ·obtain⟨a1,a2⟩:=hliv j a;obtain⟨b1,b2⟩:=hliv j' b;have:=h.inj (σ j) (σ j') a1 b1 e;rw[a2,b2,this]
 ·have h1:=h.vs i hi;simp only[Go.Proofs.YteaicgcfpcklkaaGreatDoor.canonK];rw[Bg _ rfl];refine h1.re hS fun k hk hm ho=>⟨hhas k hm ho,?_,?_⟩
  ·simp only[g'];rw[hσ k (hks k ⟨hm,ho⟩)]
  ·simp only[g'];rw[hσ k (hks k ⟨hm,ho⟩)]
 ·obtain⟨k,hk,rfl,ho⟩:=hget j hm hg;have hkm:k%32=31:=(PK ks 0 k).1 hj;have e0:π k=k:=WH ks 0 k hkm;obtain⟨h0,p1,p2,p3,p4⟩:=h.par k hm hkm ho;refine⟨h0,by rw[e0];exact p1,p2,p3,fun e=>?_⟩;have e1:g'.β (π k)=g.β k:=by simp only[g'];rw[hσ k hk]
  have e2:g'.cap (π k)=g.cap k:=by simp only[g'];rw[hσ k hk]
  rw[e1,e2,e0];exact p4 e
theorem FX.keepS(h:FX F Iow w0 g0 o0 g w tmps vm [] s){m:List Bool}(hm:m.length=vm.length):∃ g',FX F Iow w0 g0 o0 g' w tmps vm [] (keepS m s):=by
 have h1:=h.keepB hm;unfold Go.Proofs.YteaicgcfpcklkaaGreatDoor.keepS kQ;cases ho:(Go.Proofs.YteaicgcfpcklkaaGreatDoor.keepB m s).ob with
 | nil=>exact⟨g,h1⟩
 | cons p r=>
  refine h1.canonK fun k hk=>?_
  rw[gQ];refine⟨?_,by simp⟩;obtain⟨hm',hg⟩:=hk;simp only[Go.Proofs.YteaicgcfpcklkaaGreatDoor.keepB,NY] at hg;split at hg
  ·rename_i hn;obtain⟨a,ha,hb⟩:=List.any_eq_true.1 hn;exact List.mem_flatMap.2 ⟨a,ha,JW.1 hb⟩
  ·cases hg
theorem aM(h:FR F g w tmps vm ss s){c:Operand}{c':Src}(hc:BL vm ss c c'=true){b:Bool}(hb:rd s c' = .bool b):({ tmps:=tmps,defers:=ds }:Act).eval c = .bool b:=by
 have:=h.src (ds:=ds) hc;rw[hb] at this;exact Lj this
theorem qj{L:Nat}{c:Code}{f:St->Fw}{keep out rt:List Bool}(hk:keep.length=vm.length)(ho:out.length=vm.length)(hrt:rt.length=vm.length)
  (body:∀ {Q:Exit->Act->World->Prop} {s:St} {g:Gh} {w:World} {tmps:Array Value},FX F Iow w0 g0 o0 g w tmps vm [] s->tmps.size=n->(f s).2.ok=true ->
   (∀ tmps' w' g',tmps'.size=n->FX F Iow w0 g0 o0 g' w' tmps' vm [] (f s).2->Q (UI (f s).1) ⟨tmps',ds⟩ w')->c.wp P Q ⟨tmps,ds⟩ w)
  (hf:∀ s,(f s).2.ok=true->s.ok=true)
  (h:FX F Iow w0 g0 o0 g w tmps vm [] s) (hn:tmps.size=n) (hok:(CV f keep out rt L (keepS keep s)).2.ok=true)
  (hK:∀ tmps' w' g',tmps'.size=n->FX F Iow w0 g0 o0 g' w' tmps' vm [] (CV f keep out rt L (keepS keep s)).2->Q (UI (CV f keep out rt L (keepS keep s)).1) ⟨tmps',ds⟩ w'):(Code.loop c).wp P Q ⟨tmps,ds⟩ w:=by
 generalize hr:CV f keep out rt L (keepS keep s)=r at hok hK
 let J:Nat->Act->World->Prop:=fun m a w=>∃ tmps s g,a=⟨tmps,ds⟩∧tmps.size=n∧FX F Iow w0 g0 o0 g w tmps vm [] s∧CV f keep out rt m s=r
 obtain⟨g1,h1⟩:=h.keepS hk;refine wp_loop (fun a w=>∃ m,J m a w) (fun a w=>NX fun m=>J m a w) ⟨L,tmps,_,g1,rfl,hn,h1,hr⟩ fun a w hI=>?_
 have hfind:=(Ko hI).1;revert hfind;generalize NX (fun m=>J m a w)=m;rintro⟨tmps,s,g,rfl,hn,hfx,hit⟩;cases m with
 | zero=>rw[← hit] at hok;simp[CV,fail] at hok
 | succ m=>
  simp only[CV] at hit
  have hfok:(f s).2.ok=true:=by
   rw[← hit] at hok;revert hok;generalize f s=q;intro hok;obtain⟨e,s'⟩:=q;cases e
   ·simp only[Ic,IZ] at hok;have h3:=RS hf m _ hok;rwa [Hx] at h3
   ·simpa only[Ic,IZ,Hx] using hok
   ·simpa only[Ic,IZ,Hx] using hok
  refine body hfx hn hfok fun tmps' w' g' hn' hfx'=>?_
  revert hit hfx';generalize f s=q;intro hit hfx';obtain⟨e,s'⟩:=q;cases e
  ·simp only[Ic,IZ] at hit;simp only[UI,Exit.then];obtain⟨g2,h2⟩:=FX.keepS hfx' hk;have hJ:J m ⟨tmps',ds⟩ w':=⟨tmps',_,g2,rfl,hn',h2,hit⟩;exact⟨⟨m,hJ⟩,Nat.lt_succ_of_le ((Ko ⟨m,hJ⟩).2 m hJ)⟩
  ·simp only[Ic,IZ] at hit;subst hit;obtain⟨g2,h2⟩:=FX.keepS hfx' ho;exact hK _ _ _ hn' h2
  ·simp only[Ic,IZ] at hit;subst hit;obtain⟨g2,h2⟩:=FX.keepS hfx' hrt;exact hK _ _ _ hn' h2
theorem IW{L:Nat}(hT:Ix P T)(hnd:Ns vm):∀ (c:Code) (ir:IR) {Q:Exit->Act->World->Prop} {s:St} {g:Gh} {w:World} {tmps:Array Value},nY P n vm c ir=true->FX F Iow w0 g0 o0 g w tmps vm [] s->tmps.size=n->(Aq T L ir s).2.ok=true ->
  (∀ tmps' w' g',tmps'.size=n->FX F Iow w0 g0 o0 g' w' tmps' vm [] (Aq T L ir s).2->Q (UI (Aq T L ir s).1) ⟨tmps',ds⟩ w')->c.wp P Q ⟨tmps,ds⟩ w
 | c,ir,Q,s,g,w,tmps,hc,h,hn,hok,hK=>by
  unfold nY at hc;split at hc
  ·exact wp_skip (hK _ _ _ hn h)
  ·exact wp_label (hK _ _ _ hn h)
  ·rename_i id ops is;obtain⟨ss',hs⟩:=isX hc;simp only[Aq] at hok hK;exact wp_region_list (Uf hT hnd ops.toList is h hn hs hok fun tmps' w' g' hn' hfx=>hK _ _ _ hn' hfx.drop)
  ·rename_i id ops c a b is c' a' b';simp only[baT] at hc;obtain⟨hc1,hc2,hc3⟩:=hc;split at hc1
   ·rename_i ss' hs;simp only[Aq,Qq] at hok hK
    have hlok:(Ef T is s).ok=true:=by
     cases hv:rd (Ef T is s) c'<;>rw[hv] at hok<;>simp only[LW,fail] at hok<;>(try (cases hok;done))
     split at hok
     ·have h3:=DV a' hok;exact h3
     ·have h3:=DV b' hok;exact h3
    refine wp_seq (wp_region_list (Uf hT hnd ops.toList is h hn hs hlok fun tmps' w' g' hn' hfx=>?_));simp only[Exit.then];cases hv:rd (Ef T is s) c'<;>rw[hv] at hok hK<;>simp only[LW,fail] at hok hK<;>(try (cases hok;done))
    rename_i bv;refine wp_cond (aM hfx.toFR hc1 hv) ?_;cases bv
    ·simp only[bfT,if_false] at hok hK ⊢;exact IW hT hnd b b' hc3 hfx.drop hn' hok hK
    ·simp only[if_true] at hok hK ⊢;exact IW hT hnd a a' hc2 hfx.drop hn' hok hK
   ·cases hc1
  ·rename_i id ops k is alts;simp only[Aq] at hok hK;exact AAb hT hnd hc h hn hok fun tmps' w' g' hn' hfx=>hK _ _ _ hn' hfx.drop
  ·rename_i id ops c a b k is alts c' a' b';simp only[baT] at hc;obtain⟨hc1,hc2,hc3,hc4⟩:=hc;simp only[Aq,Qq] at hok hK
   have hlok:(TG T k is alts s).ok=true:=by
    cases hv:rd (TG T k is alts s) c'<;>rw[hv] at hok<;>simp only[LW,fail] at hok<;>(try (cases hok;done))
    split at hok
    ·have h3:=DV a' hok;exact h3
    ·have h3:=DV b' hok;exact h3
   refine wp_seq (AAb hT hnd hc1 h hn hlok fun tmps' w' g' hn' hfx=>?_);simp only[Exit.then];cases hv:rd (TG T k is alts s) c'<;>rw[hv] at hok hK<;>simp only[LW,fail] at hok hK<;>(try (cases hok;done))
   rename_i bv;refine wp_cond (aM hfx.toFR hc2 hv) ?_;cases bv
   ·simp only[bfT,if_false] at hok hK ⊢;exact IW hT hnd b b' hc4 hfx.drop hn' hok hK
   ·simp only[if_true] at hok hK ⊢;exact IW hT hnd a a' hc3 hfx.drop hn' hok hK
  ·rename_i a b a' b';simp only[baT] at hc;simp only[Aq] at hok hK
   have hfst:(Aq T L a' s).2.ok=true:=by
    revert hok;generalize Aq T L a' s=r;intro hok;obtain⟨e,s'⟩:=r;cases e
    ·have h3:=DV b' hok;exact h3
    ·exact hok
    ·exact hok
   refine wp_seq (IW hT hnd a a' hc.1 h hn hfst fun tmps' w' g' hn' hfx=>?_);revert hok hK hfx;generalize Aq T L a' s=r;intro hok hK hfx;obtain⟨e,s'⟩:=r;cases e
   ·exact IW hT hnd b b' hc.2 hfx hn' hok hK
   ·exact hK _ _ _ hn' hfx
   ·exact hK _ _ _ hn' hfx
  ·rename_i c a b c' a' b';simp only[baT] at hc;obtain⟨hc1,hc2,hc3⟩:=hc;simp only[Aq] at hok hK;cases hv:rd s c'<;>rw[hv] at hok hK<;>simp only[LW,fail] at hok hK<;>(try (cases hok;done))
   rename_i bv;refine wp_cond (aM h.toFR hc1 hv) ?_;cases bv
   ·simp only[bfT,if_false] at hok hK ⊢;exact IW hT hnd b b' hc3 h hn hok hK
   ·simp only[if_true] at hok hK ⊢;exact IW hT hnd a a' hc2 h hn hok hK
  ·rename_i i a j a';simp only[baT,beq_iff_eq] at hc;obtain⟨rfl,hc⟩:=hc;simp only[Aq] at hok hK
   have hfst:(Aq T L a' s).2.ok=true:=by
    revert hok;generalize Aq T L a' s=r;intro hok;obtain⟨e,s'⟩:=r;cases e
    ·exact hok
    ·simp only[Oe] at hok;rw[AO] at hok;split at hok<;>exact hok
    ·exact hok
   refine wp_block (IW hT hnd a a' hc h hn hfst fun tmps' w' g' hn' hfx=>?_);revert hok hK hfx;generalize Aq T L a' s=r;intro hok hK hfx;obtain⟨e,s'⟩:=r;cases e
   ·exact hK _ _ _ hn' hfx
   ·rename_i k;simp only[UI,Exit.inBlock];simp only[Oe,AO,beq_iff_eq] at hK
    by_cases e:k=i
    ·rw[if_pos e];rw[if_pos e] at hK;exact hK _ _ _ hn' hfx
    ·rw[if_neg e];rw[if_neg e] at hK;exact hK _ _ _ hn' hfx
   ·exact hK _ _ _ hn' hfx
  ·rename_i a keep out rt a';simp only[baT,beq_iff_eq] at hc;obtain⟨hk,ho,hrt,hc⟩:=hc;simp only[Aq] at hok hK;exact qj hk ho hrt (fun {Q s g w tmps} hfx hn' hok' hK'=>IW hT hnd a a' hc hfx hn' hok' hK') (fun s hs=>DV a' hs) h hn hok hK
  ·rename_i i j;simp only[beq_iff_eq] at hc;subst hc;exact wp_exit (hK _ _ _ hn h)
  ·exact wp_ret (hK _ _ _ hn h)
  ·rename_i m a';simp only[baT,beq_iff_eq] at hc;obtain⟨hm,hc⟩:=hc;simp only[Aq] at hok hK;refine IW hT hnd _ a' hc h hn (Ue hok) fun tmps' w' g' hn' hfx=>?_
   revert hok hK hfx;generalize Aq T L a' s=r;intro hok hK hfx;obtain⟨e,s'⟩:=r;cases e
   ·obtain⟨g2,h2⟩:=FX.keepS hfx hm;exact hK _ _ _ hn' h2
   ·exact hK _ _ _ hn' hfx
   ·exact hK _ _ _ hn' hfx
  ·cases hc
end
