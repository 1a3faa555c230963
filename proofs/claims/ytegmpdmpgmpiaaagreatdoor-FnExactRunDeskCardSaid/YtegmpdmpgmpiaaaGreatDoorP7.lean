/- Lemmas and walks, several texts in one. No condition. -/
import Derived.Test.YtegmpdmpgmpiaaaGreatDoorP3
import Derived.WalkKit
import Derived.Lib.Hide
import Derived.Deep.AppendLies
import Derived.Laws.AppendOwn
import Derived.Laws.IdiomStrings
import Derived.Deep.OwnRows
import Derived.Deep.RegionHeld3
import Derived.Test.YtegmpdmpgmpiaaaGreatDoorRows
import Derived.Deep.QuietTactic
import Derived.BigQuiet
import Derived.Laws.ResultCell
open Array renaming getElem?_eq_none->e7,ext'->hI
open Bool renaming false->bS,true->ef,not_eq_true'->h8
open Go renaming World->cL,heap_setCell_same->cS,heap_alloc_new->df,heap_setCell_other->dT,madeCells->e9,results_cell_tmp->e',Calls->fA,TypeId->gu,bodyPost_ret->gv,undef->hB,Program->hE,wpList_make_row->hM
open Go.Lib renaming hid->a'
open Go.Proofs.Tryz renaming prog->c',ntmps58->hD,func58->hH
open Go.Proofs.YtegmpdmpgmpiaaaGreatDoor.AG renaming refl->e4,drew->gk,alloc->gr
open Go.RowKit renaming Below->ds
open List renaming setIfInBounds_toArray->bN,set_cons_zero->cA,set_cons_succ->cI,replicate->dX,map->ec,length_set->eL,range->h1,drop_eq_nil_of_le->h3,mem_of_getElem?->h6,getElem?_range->h7,all_eq_true->h9,mem_range->hA
open Nat renaming lt_of_lt_of_le->bR,le_trans->dw,lt_succ_self->d',lt_or_ge->en,le_refl->fI,zero_add->h5,add_zero->hG,mul_one->hJ,le_succ->hL
open Option renaming none->bI,some->bX
set_option linter.defProp false
set_option linter.unusedSimpArgs false
set_option linter.unusedVariables false
set_option maxRecDepth 100000
set_option maxHeartbeats 8000000
open Go.IntKind (i64 u64)
namespace Go.Proofs.YtegmpdmpgmpiaaaGreatDoor
open Go Go.RowKit
theorem SA{S:Nat->Prop}{w:cL}{g:Gh}{ob:Cp}{k:Nat}{v:Value}{a:AV}(i:JH a=bS)(h:uf S w g ob k v a):VR S w v a:=by
 cases a<;>first|exact h|(simp[JH] at i)
theorem MW{P:hE}{f:FuncId}{C:Ar}{fu:Func}{c:Code}(hC:CF P f C)(hf:P.funcs[f]? = bX fu)(R:fu.body=bX c)(hn:(fu.name == "runtime.NumGoroutine")=bS)
  {args:List AV} {vargs:Array Value} {w:cL} (au:vargs.size=args.length) (av:Fh C.modes args=ef) (aa:args.all (fun a=>!Hk a)=ef) (hv:∀ j,j<args.length->VR (fun _=>False) w (vargs.getD j hB) (args.getD j .any)) (a0:GT (fun _=>False) w) {r:AV} {outs:List AV}
  (hF:C.F args=⟨ef,r,outs⟩):fA P f vargs w fun e w'=>∃ v,e = .returned v∧AG (fun _=>False) w w'∧VR (fun _=>False) w' v (QU r):=by
 have J:∀ j,Hk (args.getD j .any)=bS:=by
  intro j;simp only[h9,h8] at aa;rw[gdE];cases U:args[j]? with
  | none=>rfl
  | some a=>exact aa a (h6 U)
 have ax:∀ k,AK k (BR 0 args)=bI:=by
  intro k;cases hg:AK k (BR 0 args) with
  | none=>rfl
  | some hm=>
   obtain⟨j,_,hf⟩:=Nh hg;have:=J j;revert hf this;generalize args.getD j .any=x;intro hf this;cases x<;>simp[Ie,Hk] at hf this
 have o:∀ k,¬ KY (BR 0 args) k:=fun k ⟨hm,hg⟩=>by rw[ax k] at hg;cases hg
 have a1:FR (fun _=>False) ⟨fun _=>0,fun _=>0⟩ w vargs (h1 args.length) [] (Np args):=by
  refine⟨fun k hm hg=>(o k ⟨hm,hg⟩).elim,fun k _ T=>(o k T.1).elim,fun k T=>(o k T.1).elim,fun b R=>R.elim,by simp[Np,Kl],rfl,fun j U=>?_,fun j U=>by simp at U,fun t ht=>?_,a0.mono (e4 _ _) fun b _ R=>?_⟩
  ·have ac:j<args.length:=by simpa using U
   have e1:(h1 args.length).getD j 0=j:=by rw[gdE,h7 ac];rfl
   rw[e1];simp only[Np];rw[Lv _ 0 j ac,h5]
   have e2:ZM j (args.getD j .any)=args.getD j .any:=by
    have:=J j;revert this;generalize args.getD j .any=x;intro this;cases x<;>first|rfl|(simp[Hk] at this)
   rw[e2];refine ((hv j ac).mono (e4 _ _) fun b _ R=>?_).toSR;rcases R with R|⟨k,T,_⟩
   ·exact R
   ·exact o k T.1
  ·rcases ht with ht|ht
   ·have:=hA.1 ht;omega
   ·simp at ht
  ·rcases R with R|⟨k,T,_⟩
   ·exact R
   ·exact o k T.1
 have h:=(hC.2 _ _ w args vargs av au a1 (by rw[hF])).2;rw[hF] at h;unfold DD at h;rw[Mw hf R hn] at h;refine Calls.mono h fun e w' he=>?_
 obtain⟨v,g,ob,κ,rfl,B⟩:=he;have ab:AG (fun _=>False) w w':=B.same.mono fun b _ ⟨k,T,_⟩=>(o k T.1).elim
 have I:=(Zz B).val;refine⟨v,rfl,ab,?_⟩;revert I;generalize p:(QU r)=q;have o:∀ i,¬ Jk q i:=fun i hi=>Px (p▸hi)
 generalize (IG _ ob)=ob';intro I;have sub:∀ {u:Value} {a:AV},VR (AS (fun _=>False) g ob') w' u a->VR (fun _=>False) w' u a:=fun h=>h.mono (e4 _ _) fun _ _ c=>c.elim
 cases q
 case tup cs=>
  obtain⟨vs,rfl,hn,ao⟩:=I;refine .tup hn fun j U=>sub (SA ?_ (ao j U))
  cases a2:JH (cs.getD j .any) with
  | false=>rfl
  | true=>exact (o (j+1) ⟨j,rfl,U,a2⟩).elim
 all_goals
  refine sub (SA (g:=g) (ob:=ob') (k:=κ 0) ?_ I);first|rfl|exact (o 0 ⟨rfl,rfl⟩).elim
theorem GU{w W:cL}(h:ds w.heap.size w W):AG (fun _=>False) w W:=⟨h.os,h.tape,h.output,h.size,fun b g _=>h.block b g⟩
theorem CE{w w':cL}(h:AG (fun _=>False) w w'):ds w.heap.size w w':=⟨h.os,h.tape,h.output,h.size,fun k g=>h.block k g fun c=>c⟩
theorem DG{O:Nat->Prop}{P:hE}{f:FuncId}{C:Ar}{fu:Func}{c:Code}(hC:CF P f C)(hf:P.funcs[f]? = bX fu)(T:fu.body=bX c)(hn:(fu.name == "runtime.NumGoroutine")=bS)
  {args:List AV} {vargs:Array Value} {w:cL} (au:vargs.size=args.length) (av:Fh C.modes args=ef) (aa:args.all (fun a=>!Hk a)=ef) (hv:∀ j,j<args.length->VR O w (vargs.getD j hB) (args.getD j .any)) (hO:∀ b,O b->b<w.heap.size) (a0:GT O w) {r:AV} {outs:List AV}
  (hF:C.F args=⟨ef,r,outs⟩):fA P f vargs w fun e w'=>∃ v,e = .returned v∧AG (fun _=>False) w w'∧VR O w' v (QU r):=by
 have J:∀ j,Hk (args.getD j .any)=bS:=by
  intro j;simp only[h9,h8] at aa;rw[gdE];cases U:args[j]? with
  | none=>rfl
  | some a=>exact aa a (h6 U)
 have ax:∀ k,AK k (BR 0 args)=bI:=by
  intro k;cases hg:AK k (BR 0 args) with
  | none=>rfl
  | some hm=>
   obtain⟨j,_,hf⟩:=Nh hg;have:=J j;revert hf this;generalize args.getD j .any=x;intro hf this;cases x<;>simp[Ie,Hk] at hf this
 have o:∀ k,¬ KY (BR 0 args) k:=fun k ⟨hm,hg⟩=>by rw[ax k] at hg;cases hg
 have a1:FR O ⟨fun _=>0,fun _=>0⟩ w vargs (h1 args.length) [] (Np args):=by
  refine⟨fun k hm hg=>(o k ⟨hm,hg⟩).elim,fun k _ R=>(o k R.1).elim,fun k R=>(o k R.1).elim,hO,by simp[Np,Kl],rfl,fun j U=>?_,fun j U=>by simp at U,fun t ht=>?_,a0.mono (e4 _ _) fun b _ T=>?_⟩
  ·have ac:j<args.length:=by simpa using U
   have e1:(h1 args.length).getD j 0=j:=by rw[gdE,h7 ac];rfl
   rw[e1];simp only[Np];rw[Lv _ 0 j ac,h5]
   have e2:ZM j (args.getD j .any)=args.getD j .any:=by
    have:=J j;revert this;generalize args.getD j .any=x;intro this;cases x<;>first|rfl|(simp[Hk] at this)
   rw[e2];refine ((hv j ac).mono (e4 _ _) fun b _ T=>?_).toSR;rcases T with T|⟨k,R,_⟩
   ·exact T
   ·exact (o k R.1).elim
  ·rcases ht with ht|ht
   ·have:=hA.1 ht;omega
   ·simp at ht
  ·rcases T with T|⟨k,R,_⟩
   ·exact T
   ·exact (o k R.1).elim
 have h:=(hC.2 _ _ w args vargs av au a1 (by rw[hF])).2;rw[hF] at h;unfold DD at h;rw[Mw hf T hn] at h;refine Calls.mono h fun e w' he=>?_
 obtain⟨v,g,ob,κ,rfl,B⟩:=he;have ab:AG (fun _=>False) w w':=B.same.mono fun b _ ⟨k,R,_⟩=>(o k R.1).elim
 have I:=(Zz B).val;refine⟨v,rfl,ab,?_⟩;revert I;generalize p:(QU r)=q;have o:∀ i,¬ Jk q i:=fun i hi=>Px (p▸hi)
 generalize (IG _ ob)=ob';intro I;have sub:∀ {u:Value} {a:AV},VR (AS O g ob') w' u a->VR O w' u a:=fun h=>h.mono (e4 _ _) fun _ _ c=>.inl c
 cases q
 case tup cs=>
  obtain⟨vs,rfl,hn,ao⟩:=I;refine .tup hn fun j U=>sub (SA ?_ (ao j U))
  cases a2:JH (cs.getD j .any) with
  | false=>rfl
  | true=>exact (o (j+1) ⟨j,rfl,U,a2⟩).elim
 all_goals
  refine sub (SA (g:=g) (ob:=ob') (k:=κ 0) ?_ I);first|rfl|exact (o 0 ⟨rfl,rfl⟩).elim
end Go.Proofs.YtegmpdmpgmpiaaaGreatDoor
namespace Go.Proofs.YtegmpdmpgmpiaaaGreatDoor.plot
open Go Go.RowKit Go.Proofs.YtegmpdmpgmpiaaaGreatDoor
def strV(l:List UInt8):Value:=.string ⟨l.toArray⟩
def Kk(l:List (List UInt8)):List Value:=l.map strV
def Mr(N:Nat)(w:cL)(v:Value)(l:List (List UInt8)):Prop:=w.ownsRow N 9 1 v l.length (Kk l)
theorem Iv{w:cL}{N:Nat}{e:gu}{sz n:Nat}{v:Value}{xs:List Value}(h:w.ownsRow N e sz v n xs){b:Nat}(j:v.ownBlock=bX b):N<=b∧b<w.heap.size:=by
 rcases h.2 with⟨rfl,_⟩|⟨g,cap,p,rfl,o,h2,_⟩
 ·cases j
 ·obtain rfl:g=b:=by simpa[Value.ownBlock] using j
  refine⟨o,?_⟩;rcases en g w.heap.size with i | i
  ·exact i
  ·rw[e7 i] at h2;cases h2
theorem Iu{K:Nat->Prop}{w w':cL}{N:Nat}{e:gu}{sz n:Nat}{v:Value}{xs:List Value}(h:w.ownsRow N e sz v n xs)(hs:AG K w w')(p:∀ b,v.ownBlock=bX b->¬ K b):w'.ownsRow N e sz v n xs:=by
 refine⟨h.1,?_⟩;rcases h.2 with i|⟨g,cap,j,rfl,i,h2,C⟩
 ·exact .inl i
 ·refine .inr ⟨g,cap,j,rfl,i,?_,C⟩;have o:(Value.slice (bX ⟨g,0,bI⟩) n cap).ownBlock=bX g:=rfl;rw[hs.block g (Iv (N:=N) h o).2 (p g o),h2]
theorem Mz{w:cL}{N g n c:Nat}{e:gu}{xs:List Value}(h:w.ownsRow N e 1 (.slice (bX ⟨g,0,bI⟩) n c) n xs){i:Nat}(hi:i<n):w.cell? ⟨g,i,bI⟩=bX (xs.getD i hB):=by
 rcases h.2 with⟨J,_⟩|⟨g',cap,j,o,R,I,C,_,hs,p⟩
 ·cases J
 ·cases o
  rw[cell_of_row w g i j e (0,0) I,← p,gdE,List.getElem?_take_of_lt (by omega),Array.getElem?_toList];have:i<j.size:=by omega
  rw[Array.getElem?_eq_getElem this];rfl
theorem SV{w:cL}{N:Nat}{e:gu}{sz n:Nat}{v:Value}{xs:List Value}(h:w.ownsRow N e sz v n xs)(o:0<n):∃ g c,v = .slice (bX ⟨g,0,bI⟩) n c:=by
 rcases h.2 with⟨rfl,j⟩|⟨g,cap,i,rfl,_⟩
 ·omega
 ·exact⟨_,_,rfl⟩
theorem MA{w:cL}{N:Nat}{e:gu}{sz n:Nat}{v:Value}{xs:List Value}(h:w.ownsRow N e sz v n xs){b:Nat}(j:v.ownBlock=bX b):∃ i fr,w.heap[b]? = bX (.cells i e fr):=by
 rcases h.2 with⟨rfl,_⟩|⟨g,cap,i,rfl,o,h2,_⟩
 ·cases j
 ·obtain rfl:g=b:=by simpa[Value.ownBlock] using j
  exact⟨_,_,h2⟩
theorem mi{w w':cL}{row:Option Nat}(h:w.grownBy w' row):AG (fun b=>bX b=row) w w':=⟨h.os,h.tape,h.output,h.size,fun b i g=>h.block b i g⟩
theorem fg(w:cL){T:gu}:(w.alloc (.cells #[] T)).ownsRow w.heap.size T 1 (.slice (bX ⟨w.heap.size,0,bI⟩) 0 0) 0 [] :=
 ⟨rfl,.inr ⟨w.heap.size,0,#[],rfl,fI _,df w _,fI _,Nat.zero_le _,rfl,rfl⟩⟩
theorem Pi{w:cL}{N o:Nat}{e:gu}{sz n:Nat}{v:Value}{xs:List Value}(h:w.ownsRow N e sz v n xs)(C:o<=N):w.ownsRow o e sz v n xs:=by
 refine⟨h.1,?_⟩;rcases h.2 with j|⟨g,cap,i,p,j,h2⟩
 ·exact .inl j
 ·exact .inr ⟨g,cap,i,p,by omega,h2⟩
theorem sI{K o:Nat->Prop}{a b c:cL}(h:AG K a b)(g:AG o b c)(p:∀ x,x<a.heap.size->o x->K x):AG K a c :=
 ⟨g.os.trans h.os,g.tape.trans h.tape,g.output.trans h.output,dw h.size g.size,fun x i j=>(g.block x (bR i h.size) fun c=>j (p x i c)).trans (h.block x i j)⟩
theorem DP{w:cL}(a:Addr)(v:Value):AG (fun b=>b=a.block) w (w.setCell a v):=⟨rfl,rfl,rfl,by simp[World.setCell],fun b _ g=>dT w a b v g⟩
end Go.Proofs.YtegmpdmpgmpiaaaGreatDoor.plot
namespace Go.Proofs.YtegmpdmpgmpiaaaGreatDoor.plot
open Go Go.RowKit Go.Proofs.YtegmpdmpgmpiaaaGreatDoor
section
variable {P:hE}
end
end Go.Proofs.YtegmpdmpgmpiaaaGreatDoor.plot
namespace Go.Proofs.YtegmpdmpgmpiaaaGreatDoor.rdc
open Go Go.RowKit Go.Proofs.YtegmpdmpgmpiaaaGreatDoor Go.Proofs.YtegmpdmpgmpiaaaGreatDoor.plot
def Li(W:cL)(b off:Nat)(l:List (List UInt8)):Prop:=∀ k,k<l.length->W.cell? ⟨b,off+k,bI⟩=bX (strV (l.getD k default))
theorem words_of{S:Nat->Prop}{w:cL}{v:Value}{l:List (List UInt8)}(h:VR S w v (.sl 1 (ec AV.str l)))(h0:0<l.length):
    ∃ b off cap,v = .slice (bX ⟨b,off,bI⟩) l.length cap∧b<w.heap.size∧¬ S b∧Li w b off l∧l.length<=cap:=by
  cases h with
  | @sl a n cap sz els b off rd o i I U hc j J=>
    have p:(ec AV.str l).length=l.length:=by simp
    obtain⟨e,hS⟩:=U (by omega);have T:=World.block_lt_of_cell? w ⟨b,off+(0*1+0),bI⟩ (j 0 0 (by omega) (by omega));refine⟨b,off,cap,by rw[o,p,e],T,hS,fun k R=>?_,by rw[← p,← o];exact i⟩;have C:=j k 0 (by omega) (by omega);have h2:=J k 0 (by omega) (by omega);have g:(ec AV.str l).getD k .any = .str (l.getD k default):=by simp[gdE,R]
    rw[g] at h2;rw[hJ,hG] at C;rw[C];have h2:VR S w (rd k 0) (.str (l.getD k default)):=h2;generalize rd k 0=u at h2;cases h2;rfl
theorem Li.same{K:Nat->Prop}{W i:cL}{b off:Nat}{l:List (List UInt8)}(h:Li W b off l)(hs:AG K W i)(o:b<W.heap.size)(j:¬ K b):Li i b off l:=fun k g=>by
  rw[← h k g];exact GJ (hs.block b o j)
def Vu(l:List Int):List Value:=l.map (Value.int .i64)
def Ln(w:cL)(g:Nat)(l:List Int):Prop:=w.heap[g]? = bX (.cells (Vu l).toArray 2 (0,0))
theorem Ln.cell{w:cL}{g:Nat}{l:List Int}(h:Ln w g l){j:Nat}(i:j<l.length):w.cell? ⟨g,j,bI⟩=bX (.int .i64 (l.getD j 0))∧w.frozen? ⟨g,j,bI⟩=bS:=by
  refine⟨?_,by unfold World.frozen?;rw[h];rfl⟩;rw[cell_of_row w g j _ _ _ h];simp[Vu,gdE,i]
theorem Ln.set{w:cL}{g:Nat}{l:List Int}(h:Ln w g l)(j:Nat)(z:Int):Ln (w.setCell ⟨g,j,bI⟩ (.int .i64 z)) g (l.set j z):=by
  unfold Ln;rw[cS w g j _ _ _ h]
  congr 2
  unfold Vu;apply hI;rw[Array.toList_setIfInBounds];simp[List.map_set]
theorem Ln.same{K:Nat->Prop}{w w':cL}{g:Nat}{l:List Int}(h:Ln w g l)(hs:AG K w w')(o:¬ K g):Ln w' g l:=by
  have j:g<w.heap.size:=by
    rcases en g w.heap.size with c|c
    · exact c
    · have i:w.heap[g]? = _:=h;rw[e7 c] at i;cases i
  unfold Ln;rw[hs.block g j o];exact h
theorem wJ{S:Nat->Prop}{w:cL}{g cap:Nat}{l:List Int}(h:Ln w g l)(p:l.length<=cap)(C:¬ S g):VR S w (.slice (bX ⟨g,0,bI⟩) l.length cap) (.sl 1 (ec (AV.int .i64) l)):=by
  have one:∀ i,i<l.length->(ec (AV.int .i64) l).getD i .any = .int .i64 (l.getD i 0):=fun i hi=>by
    simp[gdE,hi]
  refine .sl g 0 (fun i j=>.int .i64 (l.getD i 0)) (by simp) p (by omega) (fun _=>⟨rfl,C⟩) (fun i hi=>?_) (fun i j hi o=>?_) (fun i j hi o=>?_)
  · rw[one i (by simpa using hi)];exact⟨rfl,rfl⟩
  · obtain rfl:j=0:=by omega
    rw[h5,hJ,hG];exact (h.cell (by simpa using hi)).1
  · obtain rfl:j=0:=by omega
    rw[one i (by simpa using hi)];exact .int
structure Lj(cb gn:Nat)(ws:Value)(cap:Nat)(ns:List Int)(f b:Bool)(w:cL):Prop where
  hd:w.heap[cb]? = bX (.cells #[ws,.slice (bX ⟨gn,0,bI⟩) ns.length cap,.bool f,.bool b] 91 (0,0))
  nu:Ln w gn ns
theorem Lm{w:cL}{b:Nat}{i v1 v2 g:Value}{T:gu}(h:w.heap[b]? = bX (.cells #[i,v1,v2,g] T (0,0))):
    w.cell? ⟨b,0,bI⟩=bX i∧w.cell? ⟨b,1,bI⟩=bX v1∧w.cell? ⟨b,2,bI⟩=bX v2∧w.cell? ⟨b,3,bI⟩=bX g∧∀ j,w.frozen? ⟨b,j,bI⟩=bS:=by
  refine⟨?_,?_,?_,?_,fun j=>?_⟩
  · unfold World.cell?;rw[h];rfl
  · unfold World.cell?;rw[h];rfl
  · unfold World.cell?;rw[h];rfl
  · unfold World.cell?;rw[h];rfl
  · unfold World.frozen?;rw[h];rfl
theorem Lj.num{i g:Nat}{p:Value}{cap:Nat}{C:List Int}{f b:Bool}{w:cL}(h:Lj i g p cap C f b w)(o:i≠g)(j:Nat)(z:Int):Lj i g p cap (C.set j z) f b (w.setCell ⟨g,j,bI⟩ (.int .i64 z)) :=
  ⟨by rw[dT w ⟨g,j,bI⟩ i _ o,h.hd,eL],h.nu.set j z⟩
theorem Lj.wrong{g i:Nat}{o:Value}{cap:Nat}{p:List Int}{f b:Bool}{w:cL}(h:Lj g i o cap p f b w)(j:g≠i)(C:Bool):Lj g i o cap p f C (w.setCell ⟨g,3,bI⟩ (.bool C)) :=
  ⟨(cS w g 3 _ _ _ h.hd).trans rfl,by unfold Ln;rw[dT w ⟨g,3,bI⟩ i _ (fun e=>j e.symm)];exact h.nu⟩
theorem Lj.faint{g i:Nat}{o:Value}{cap:Nat}{p:List Int}{f b:Bool}{w:cL}(h:Lj g i o cap p f b w)(j:g≠i)(f':Bool):Lj g i o cap p f' b (w.setCell ⟨g,2,bI⟩ (.bool f')) :=
  ⟨(cS w g 2 _ _ _ h.hd).trans rfl,by unfold Ln;rw[dT w ⟨g,2,bI⟩ i _ (fun e=>j e.symm)];exact h.nu⟩
theorem Lj.lt{i g:Nat}{j:Value}{cap:Nat}{o:List Int}{f b:Bool}{w:cL}(h:Lj i g j cap o f b w):i<w.heap.size∧g<w.heap.size:=by
  refine⟨?_,?_⟩
  · rcases en i w.heap.size with c|c
    · exact c
    · have:=h.hd;rw[e7 c] at this;cases this
  · rcases en g w.heap.size with c|c
    · exact c
    · have:w.heap[g]? = _:=h.nu;rw[e7 c] at this;cases this
theorem Lj.same{K:Nat->Prop}{g i:Nat}{j:Value}{cap:Nat}{o:List Int}{f b:Bool}{w w':cL}(h:Lj g i j cap o f b w)(hs:AG K w w')(p:¬ K g)(h2:¬ K i):Lj g i j cap o f b w' :=
  ⟨by rw[hs.block g h.lt.1 p,h.hd],h.nu.same hs h2⟩
theorem my{kinds X:List UInt8}{i:Nat}{r:List (List UInt8)}{g:List Int}{f b:Bool}{y:List Int×Bool×Bool}(h:AX kinds i (X::r) g f b=bX y):
    i<kinds.length∧i+1<g.length ∧
      ((kinds.getD i 0=110∧∃ q,La X=bX q∧AX kinds (i+1) r (g.set (i+1) q.1) f (b || !q.2)=bX y) ∨
       (kinds.getD i 0=109∧∃ q,CH X=bX q∧AX kinds (i+1) r (g.set (i+1) q.1) f (b || !q.2)=bX y) ∨
       (kinds.getD i 0=102∧∃ z q,CX X [60]=bX z∧CH z.1=bX q∧AX kinds (i+1) r (g.set (i+1) q.1) z.2 (b || !q.2)=bX y) ∨
       (kinds.getD i 0≠110∧kinds.getD i 0≠109∧kinds.getD i 0≠102∧AX kinds (i+1) r g f b=bX y)):=by
  rw[AX] at h;obtain⟨I,h⟩:=AO h;obtain⟨h2,h⟩:=AO h;refine⟨of_decide_eq_true I,of_decide_eq_true h2,?_⟩;generalize kinds.getD i 0=c at h;split at h
  · rename_i p;obtain⟨q,j,h⟩:=AN h;exact .inl ⟨by simpa using p,q,j,h⟩
  · rename_i p;split at h
    · rename_i hd;obtain⟨q,j,h⟩:=AN h;exact .inr (.inl ⟨by simpa using hd,q,j,h⟩)
    · rename_i hd;split at h
      · rename_i o;obtain⟨z,C,h⟩:=AN h;obtain⟨q,j,h⟩:=AN h;exact .inr (.inr (.inl ⟨by simpa using o,z,q,C,j,h⟩))
      · rename_i o;exact .inr (.inr (.inr ⟨by simpa using p,by simpa using hd,by simpa using o,h⟩))
def RdEnd(O:Nat->Prop)(r:EM×Bool)(w:cL)(e:Ending)(w':cL):Prop := ∃ g nu,e = .returned (.tuple #[.agg #[g,nu,.bool r.1.fainter_,.bool r.1.wrong_],.bool r.2])∧AG (fun _=>False) w w' ∧ VR O w' g (.sl 1 (ec AV.str r.1.words_))∧VR O w' nu (.sl 1 (ec (AV.int .i64) r.1.numbers_))
theorem fe{S:Nat->Prop}{w:cL}:VR S w (.slice bI 0 0) (.sl 1 []) :=
  .sl 0 0 (fun _ _=>hB) rfl (fI _) (by omega) (fun h=>absurd h (by simp)) (fun i hi=>absurd hi (by simp)) (fun i j hi=>absurd hi (by simp)) (fun i j hi=>absurd hi (by simp))
theorem ZN:(c'.info? 2).map (fun i=>(i.zero,i.size,i.bytes))=bX (bX (.int .i64 0),1,8):=by kernel_rfl
theorem Tg:c'.underlying 44=bX (.slice 2):=by kernel_rfl
theorem de(k:Nat):e9 #[Value.int .i64 0] k=(Vu (dX k 0)).toArray:=by
  apply hI;unfold Vu;have g:(e9 #[Value.int .i64 0] k).size=k:=by simp[e9]
  refine List.ext_getElem (by simp[g]) fun i h2 j=>?_
  have:i%1=0:=Nat.mod_one i;simp[e9,this]
theorem zo{w:cL}{b:Nat}{C v1 v2 p:Value}{T:gu}(o j i g:Value)(h:w.heap[b]? = bX (.cells #[C,v1,v2,p] T (0,0))):
    ((((w.setCell ⟨b,0,bI⟩ o).setCell ⟨b,1,bI⟩ j).setCell ⟨b,2,bI⟩ i).setCell ⟨b,3,bI⟩ g).heap[b]? = bX (.cells #[o,j,i,g] T (0,0))∧AG (fun k=>k=b) w ((((w.setCell ⟨b,0,bI⟩ o).setCell ⟨b,1,bI⟩ j).setCell ⟨b,2,bI⟩ i).setCell ⟨b,3,bI⟩ g):=by
  have R:=cS w b 0 _ _ o h;have J:=cS _ b 1 _ _ j R;have h2:=cS _ b 2 _ _ i J;have I:=cS _ b 3 _ _ g h2;exact⟨I.trans rfl,(((DP (w:=w) ⟨b,0,bI⟩ o).trans (DP ⟨b,1,bI⟩ j)).trans (DP ⟨b,2,bI⟩ i)).trans (DP ⟨b,3,bI⟩ g)⟩
section
variable {P:hE}{ops:Array Oper}{Q:Exit->Act->cL->Prop}{md:Region.Mode}{S:cL->Prop}
theorem Vc{i d:Nat}{o:Oper}{v:Value}{j:Nat}{g:Array Bool}{a:Act}{w:cL}(hi:ops[i]? = bX o)(hd:o.dst=bX d)(hs:Region.noSelect ops=ef)(J:Region.free md ops g i=ef)(I:(Region.ready md ops g).contains i=ef)
    (C:Region.wanted o (yielded ops a.tmps)=ef) (T:∀ c a w,Q (.panic c) (a.put o.dst v) w->Q (.panic c) a w) (R:S w) (p:∀ w,S w->(execOp a.eval o).run P w = .ok (.value v) w)
    (h:wpAnyH P md ops Q S j (g.setIfInBounds i ef) (a.put (bX d) v) w):wpAnyH P md ops Q S (j+1) g a w :=
  wpAnyH_take hi hs J I T (.inl ⟨C,p⟩) R (hd▸h)
theorem Vd{i d:Nat}{o:Oper}{j:Nat}{g:Array Bool}{a:Act}{w:cL}(hi:ops[i]? = bX o)(hd:o.dst=bX d)(hs:Region.noSelect ops=ef)(I:Region.free md ops g i=ef)(C:(Region.ready md ops g).contains i=ef)
    (p:Region.wanted o (yielded ops a.tmps)=bS) (R:∀ c a w,Q (.panic c) (a.put o.dst hB) w->Q (.panic c) a w) (J:S w)
    (h:wpAnyH P md ops Q S j (g.setIfInBounds i ef) (a.put (bX d) hB) w):wpAnyH P md ops Q S (j+1) g a w :=
  wpAnyH_take hi hs I C R (.inr ⟨p,rfl⟩) J (hd▸h)
end
theorem read_none(O:Nat->Prop)(line:List UInt8)(n:Nat)(T kinds:List UInt8)(c:Bool)(w:cL)(hn:0<n)(be:c=bS∨¬ (n:Int)=(kinds.length:Int)+1)(cs:n<=1099511627776)(cn:kinds.length<=1099511627776)
    (b8:fA c' 97 #[.string ⟨line.toArray⟩,.string ⟨#[32]⟩] (w.alloc (.cells #[.slice bI 0 0,.slice bI 0 0,.bool bS,.bool bS] 91)) fun e w1=>∃ b off cap,e = .returned (.slice (bX ⟨b,off,bI⟩) n cap)∧ds (w.heap.size+1) (w.alloc (.cells #[.slice bI 0 0,.slice bI 0 0,.bool bS,.bool bS] 91)) w1∧b<w1.heap.size∧w1.cell? ⟨b,off,bI⟩=bX (strV T))
    (bv:∀ W,ds w.heap.size w W->fA c' 98 #[strV T] W fun e W'=>e = .returned (.string ⟨kinds.toArray⟩)∧ds W.heap.size W W')
    (b1:∀ W,ds w.heap.size w W->fA c' 100 #[] W fun e W'=>∃ v,e = .returned v∧ds W.heap.size W W'∧∀ W2,ds W'.heap.size W' W2->fA c' 99 #[v,strV T] W2 fun e W3=>e = .returned (.bool c)∧ds W2.heap.size W2 W3) :
    fA c' 58 #[.string ⟨line.toArray⟩] w (RdEnd O (⟨[],[],bS,bS⟩,bS) w):=by
  have HN:=a' be;have cc:=a' bv;have b3:=a' b1;clear be bv b1
  go_enter hH,hD
  have ca:ds w.heap.size w (w.alloc (.cells #[.slice bI 0 0,.slice bI 0 0,.bool bS,.bool bS] 91)):=Below.alloc (Below.refl _ _) (fI _) _
  go_wp2_with (first
    | (go_at_call 97;refine b8.mono ?_;rintro e w1 ⟨b,off,cap,rfl,J,bs,b7⟩;have a5:=ca.trans (J.mono (hL _)))
    | (go_at_call 98;refine (cc.out _ a5).mono ?_;rintro e w2 ⟨rfl,I⟩;have b9:=a5.trans (I.mono a5.size);have b6:=(I.cell (p:=⟨b,off,bI⟩) bs).trans b7))
  have ax:w2.drew.cell? ⟨b,off,bI⟩=bX (strV T):=b6;have ac:b<w2.drew.heap.size:=bR bs I.size;have ad:ds w.heap.size w w2.drew:=b9.drew;rcases c with _|_
  · refine wp_region_held_drew (S:=fun w'=>w'.cell? ⟨b,off,bI⟩=bX (strV T)) (by kernel_rfl) ax (fun g=>?_);refine Vc (i:=1) (d:=17) (v:=.slice (bX ⟨b,off,bI⟩) n cap) rfl rfl (by kernel_rfl) (by kernel_rfl) (by kernel_rfl) (by kernel_rfl) (fun _ _ _ h=>h) g (fun w' aj=>?_) ?_
    · go_simp
    try simp only[Act.put,bN,cA,cI]
    refine Vc (i:=2) (d:=18) (v:=.pointer (bX ⟨b,off,bI⟩)) rfl rfl (by kernel_rfl) (by kernel_rfl) (by kernel_rfl) (by kernel_rfl) (fun _ _ _ h=>h) g (fun w' aj=>?_) ?_
    · go_simp
    try simp only[Act.put,bN,cA,cI]
    refine Vc (i:=3) (d:=19) (v:=strV T) rfl rfl (by kernel_rfl) (by kernel_rfl) (by kernel_rfl) (by kernel_rfl) (fun _ _ _ h=>h) g (fun w' aj=>?_) ?_
    · go_simp
    try simp only[Act.put,bN,cA,cI]
    refine wpAnyH_ready (rs:=[0]) (by kernel_rfl) (by simp) ?_;refine AllReadyH.cons rfl (fun K hK=>?_) AllReadyH.nil
    go_simp
    go_at_call 100
    refine (b3.out _ ad).mono ?_;rintro e w3 ⟨vd,rfl,C,a4⟩;have ao:=(C.cell (p:=⟨b,off,bI⟩) ac).trans ax;have au:=bR ac C.size;have av:=ad.trans (C.mono ad.size)
    refine hK.out _ _ ao (fun g=>?_);clear hK K;try simp only[Act.put,bN,cA,cI]
    refine wpAnyH_ready (rs:=[4]) (by kernel_rfl) (by simp) ?_;refine AllReadyH.cons rfl (fun K hK=>?_) AllReadyH.nil
    go_simp
    go_at_call 99
    refine (a4 _ (Below.refl _ _)).mono ?_;rintro e w4 ⟨rfl,ab⟩;have a3:=(ab.cell (p:=⟨b,off,bI⟩) au).trans ao;have o:=av.trans (ab.mono av.size)
    refine hK.out _ _ a3 (fun g=>?_);clear hK K;try simp only[Act.put,bN,cA,cI]
    refine Vc (i:=5) (d:=21) (v:=.bool ef) rfl rfl (by kernel_rfl) (by kernel_rfl) (by kernel_rfl) (by kernel_rfl) (fun _ _ _ h=>h) g (fun w' aj=>?_) ?_
    · go_simp
    try simp only[Act.put,bN,cA,cI]
    refine Vc (i:=6) (d:=22) (v:=.bool ef) rfl rfl (by kernel_rfl) (by kernel_rfl) (by kernel_rfl) (by kernel_rfl) (fun _ _ _ h=>h) g (fun w' aj=>?_) ?_
    · go_simp
    try simp only[Act.put,bN,cA,cI]
    refine Vd (i:=7) (d:=23) rfl rfl (by kernel_rfl) (by kernel_rfl) (by kernel_rfl) (by kernel_rfl) (fun _ _ _ h=>h) g ?_;try simp only[Act.put,bN,cA,cI]
    refine Vd (i:=8) (d:=24) rfl rfl (by kernel_rfl) (by kernel_rfl) (by kernel_rfl) (by kernel_rfl) (fun _ _ _ h=>h) g ?_;try simp only[Act.put,bN,cA,cI]
    refine Vd (i:=9) (d:=25) rfl rfl (by kernel_rfl) (by kernel_rfl) (by kernel_rfl) (by kernel_rfl) (fun _ _ _ h=>h) g ?_;try simp only[Act.put,bN,cA,cI]
    refine Vd (i:=10) (d:=26) rfl rfl (by kernel_rfl) (by kernel_rfl) (by kernel_rfl) (by kernel_rfl) (fun _ _ _ h=>h) g ?_;try simp only[Act.put,bN,cA,cI]
    refine Vd (i:=11) (d:=27) rfl rfl (by kernel_rfl) (by kernel_rfl) (by kernel_rfl) (by kernel_rfl) (fun _ _ _ h=>h) g ?_;try simp only[Act.put,bN,cA,cI]
    refine Vd (i:=12) (d:=28) rfl rfl (by kernel_rfl) (by kernel_rfl) (by kernel_rfl) (by kernel_rfl) (fun _ _ _ h=>h) g ?_;try simp only[Act.put,bN,cA,cI]
    refine Vc (i:=13) (d:=29) (v:=.bool ef) rfl rfl (by kernel_rfl) (by kernel_rfl) (by kernel_rfl) (by kernel_rfl) (fun _ _ _ h=>h) g (fun w' aj=>?_) ?_
    · go_simp
    try simp only[Act.put,bN,cA,cI]
    refine wpAnyH_done (by kernel_rfl) ?_ _
    have aa:w4.heap[w.heap.size]? = bX (.cells #[.slice bI 0 0,.slice bI 0 0,.bool bS,.bool bS] 91 (0,0)):=by
      have e1:w2.heap[w.heap.size]? = _:=(I.block _ (bR (d' _) (by have:=J.size;simpa using this))).trans (J.block _ (d' _));rw[ab.block _ (by have:=J.size;have:=I.size;have:=C.size;simp at *;omega),C.block _ (by have:=J.size;have:=I.size;simp at *;omega)];exact e1.trans (df w _)
    obtain⟨r0,r1,r2,r3,U⟩:=Lm aa;have a2:=U 0;have a1:=U 1;have a0:=U 2;have ay:=U 3;have a6:=a' aa;clear U aa
    go_wp2
    obtain⟨R,j⟩:=zo (.slice bI 0 0) (.slice bI 0 0) (.bool bS) (.bool bS) a6.out;obtain⟨w5,ae⟩:∃ w5,w5=((((w4.setCell ⟨w.heap.size,0,bI⟩ (.slice bI 0 0)).setCell ⟨w.heap.size,1,bI⟩ (.slice bI 0 0)).setCell ⟨w.heap.size,2,bI⟩ (.bool bS)).setCell ⟨w.heap.size,3,bI⟩ (.bool bS)):=⟨_,rfl⟩;rw[← ae] at R j ⊢;clear ae r0 r1 r2 r3 a2 a1 a0 ay;obtain⟨r0,r1,r2,r3,U⟩:=Lm R;clear U
    (try simp only[Exit.inBlock,Exit.then])
    refine gv (v:=.tuple #[.agg #[.slice bI 0 0,.slice bI 0 0,.bool bS,.bool bS],.bool bS]) (by rw[e' rfl];go_simp) rfl ?_;refine⟨_,_,rfl,?_,fe,fe⟩;exact⟨j.os.trans o.os,j.tape.trans o.tape,j.output.trans o.output,dw o.size j.size,fun k hk _=>(j.block k (bR hk o.size) (fun c=>by have c:k=w.heap.size:=c;omega)).trans (o.block k hk)⟩
  · have cm:¬ (n:Int)=(kinds.length:Int)+1:=HN.out.resolve_left (by decide);have cl:i64.wrap ((kinds.length:Int)+1)=(kinds.length:Int)+1:=Z1 (by omega)
    go_region_held3 (fun w'=>w'.cell? ⟨b,off,bI⟩=bX (strV T)) (first|exact ax|exact ao|exact a3) (first
      | (go_at_call 100;refine (b3.out _ ad).mono ?_;rintro e w3 ⟨vd,rfl,C,a4⟩;have ao:=(C.cell (p:=⟨b,off,bI⟩) ac).trans ax;have au:=bR ac C.size;have av:=ad.trans (C.mono ad.size))
      | (go_at_call 99;refine (a4 _ (Below.refl _ _)).mono ?_;rintro e w4 ⟨rfl,ab⟩;have a3:=(ab.cell (p:=⟨b,off,bI⟩) au).trans ao;have o:=av.trans (ab.mono av.size)))
    have aa:w4.heap[w.heap.size]? = bX (.cells #[.slice bI 0 0,.slice bI 0 0,.bool bS,.bool bS] 91 (0,0)):=by
      have e1:w2.heap[w.heap.size]? = _:=(I.block _ (bR (d' _) (by have:=J.size;simpa using this))).trans (J.block _ (d' _));rw[ab.block _ (by have:=J.size;have:=I.size;have:=C.size;simp at *;omega),C.block _ (by have:=J.size;have:=I.size;simp at *;omega)];exact e1.trans (df w _)
    obtain⟨r0,r1,r2,r3,U⟩:=Lm aa;have a2:=U 0;have a1:=U 1;have a0:=U 2;have ay:=U 3;have a6:=a' aa;clear U aa
    go_wp2
    obtain⟨R,j⟩:=zo (.slice bI 0 0) (.slice bI 0 0) (.bool bS) (.bool bS) a6.out;obtain⟨w5,ae⟩:∃ w5,w5=((((w4.setCell ⟨w.heap.size,0,bI⟩ (.slice bI 0 0)).setCell ⟨w.heap.size,1,bI⟩ (.slice bI 0 0)).setCell ⟨w.heap.size,2,bI⟩ (.bool bS)).setCell ⟨w.heap.size,3,bI⟩ (.bool bS)):=⟨_,rfl⟩;rw[← ae] at R j ⊢;clear ae r0 r1 r2 r3 a2 a1 a0 ay;obtain⟨r0,r1,r2,r3,U⟩:=Lm R;clear U
    (try simp only[Exit.inBlock,Exit.then])
    refine gv (v:=.tuple #[.agg #[.slice bI 0 0,.slice bI 0 0,.bool bS,.bool bS],.bool bS]) (by rw[e' rfl];go_simp) rfl ?_;refine⟨_,_,rfl,?_,fe,fe⟩;exact⟨j.os.trans o.os,j.tape.trans o.tape,j.output.trans o.output,dw o.size j.size,fun k hk _=>(j.block k (bR hk o.size) (fun c=>by have c:k=w.heap.size:=c;omega)).trans (o.block k hk)⟩
theorem read_all(O:Nat->Prop)(line:List UInt8)(n:Nat)(o:List (List UInt8))(c9:List UInt8)(g5:o.getD 0 default=c9)(kinds:List UInt8)(y:List Int×Bool×Bool)(w:cL)(hO:∀ b,O b->b<w.heap.size)(c5:n=o.length)(hn:0<n)(hk:n=kinds.length+1)(k6:n<=1099511627776)(hy:AX kinds 0 (o.drop 1) (dX o.length 0) bS bS=bX y)
    (f8:fA c' 97 #[.string ⟨line.toArray⟩,.string ⟨#[32]⟩] (w.alloc (.cells #[.slice bI 0 0,.slice bI 0 0,.bool bS,.bool bS] 91)) fun e w1=>∃ v,e = .returned v∧ds (w.heap.size+1) (w.alloc (.cells #[.slice bI 0 0,.slice bI 0 0,.bool bS,.bool bS] 91)) w1∧VR (fun k=>k=w.heap.size∨O k) w1 v (.sl 1 (ec AV.str o)))
    (hu:∀ W,ds w.heap.size w W->fA c' 98 #[strV c9] W fun e W'=>e = .returned (.string ⟨kinds.toArray⟩)∧ds W.heap.size W W')
    (hw:∀ W,ds w.heap.size w W->fA c' 100 #[] W fun e W'=>∃ v,e = .returned v∧ds W.heap.size W W'∧∀ W2,ds W'.heap.size W' W2->fA c' 99 #[v,strV c9] W2 fun e W3=>e = .returned (.bool ef)∧ds W2.heap.size W2 W3)
    (ht:∀ (X:List UInt8) (q:Int×Bool) (W:cL),ds w.heap.size w W->La X=bX q->fA c' 101 #[strV X] W fun e W'=>e = .returned (.tuple #[.int .i64 q.1,.bool q.2])∧ds W.heap.size W W')
    (hr:∀ (X:List UInt8) (q:Int×Bool) (W:cL),ds w.heap.size w W->CH X=bX q->fA c' 102 #[strV X] W fun e W'=>e = .returned (.tuple #[.int .i64 q.1,.bool q.2])∧ds W.heap.size W W')
    (hx:∀ (X:List UInt8) (q:List UInt8×Bool) (W:cL),ds w.heap.size w W->CX X [60]=bX q->fA c' 103 #[strV X,.string ⟨#[60]⟩] W fun e W'=>e = .returned (.tuple #[strV q.1,.bool q.2])∧ds W.heap.size W W') :
    fA c' 58 #[.string ⟨line.toArray⟩] w (RdEnd O (⟨o,y.1,y.2.1,y.2.2⟩,ef) w):=by
  have HO:=a' hO;have HL:=a' c5;have j2:=a' g5;have j5:=a' hu;have j6:=a' hw;have j4:=a' ht;have h2:=a' hr;have j7:=a' hx;have HY:=a' hy;have HK:=a' hk;clear hO c5 g5 hu hw ht hr hx hy hk;have i7:ds w.heap.size w (w.alloc (.cells #[.slice bI 0 0,.slice bI 0 0,.bool bS,.bool bS] 91)):=Below.alloc (Below.refl _ _) (fI _) _;have g8:0<o.length:=HL.out▸hn
  go_enter hH,hD
  go_wp2_with (first
    | (go_at_call 97;refine f8.mono ?_;rintro e w1 ⟨v,rfl,bb,hv⟩;have HV:=a' hv;obtain⟨b,off,cap,g6,ew,hp,f7,hj⟩:=words_of hv g8;rw[← HL.out] at g6 hj;subst g6;have f5:w1.cell? ⟨b,off,bI⟩=bX (strV c9):=(f7 0 g8).trans (by rw[j2.out]);have h4:=a' f7;have k9:=a' hp;clear f7 hv hp;have ea:=i7.trans (bb.mono (hL _)))
    | (go_at_call 98;refine (j5.out _ ea).mono ?_;rintro e w2 ⟨rfl,ae⟩;have gb:=ea.trans (ae.mono ea.size);have f4:=(ae.cell (p:=⟨b,off,bI⟩) ew).trans f5))
  have eu:w2.drew.cell? ⟨b,off,bI⟩=bX (strV c9):=f4;have c6:b<w2.drew.heap.size:=bR ew ae.size;have d8:ds w.heap.size w w2.drew:=gb.drew;have i3:(kinds.length:Int)+1=(n:Int):=by have:=HK.out;omega
  have kz:i64.wrap ((kinds.length:Int)+1)=(n:Int):=by rw[i3];exact Z1 (by omega)
  have ks:i64.wrap (n:Int)=(n:Int):=Z1 (by omega)
  go_region_held3 (fun w'=>w'.cell? ⟨b,off,bI⟩=bX (strV c9)) (first|exact eu|exact ev|exact f3) (first
    | (go_at_call 100;refine (j6.out _ d8).mono ?_;rintro e w3 ⟨vd,rfl,ad,ga⟩;have ev:=(ad.cell (p:=⟨b,off,bI⟩) c6).trans eu;have d5:=bR c6 ad.size;have e0:=d8.trans (ad.mono d8.size))
    | (go_at_call 99;refine (ga _ (Below.refl _ _)).mono ?_;rintro e w4 ⟨rfl,aj⟩;have f3:=(aj.cell (p:=⟨b,off,bI⟩) d5).trans ev;have dc:=e0.trans (aj.mono e0.size)))
  obtain⟨i0,hi,g3,g0,gw⟩:=info_parts ZN;rcases en 1 cap with i5|i5
  · go_wp2_with (refine hM _ rfl _ _ 44 rfl 2 i0 _ Tg hi g3 g0 rfl .i64 .i64 n rfl rfl (by rw[gw];omega) (by omega) ?_)
    have av:Ln (w4.alloc (.cells (e9 #[.int .i64 0] n) 2)) w4.heap.size (dX n 0):=by
      unfold Ln;rw[df,de]
    have au:(w4.alloc (.cells (e9 #[.int .i64 0] n) 2)).heap.size=w4.heap.size+1:=by simp
    obtain⟨w5,a7⟩:∃ w5,w5=w4.alloc (.cells (e9 #[.int .i64 0] n) 2):=⟨_,rfl⟩;have cn:ds w.heap.size w w5:=by rw[a7];exact dc.alloc dc.size _
    rw[← a7] at av au ⊢
    have R:Lj (w4.heap.size+1) w4.heap.size (.slice (bX ⟨b,off,bI⟩) n cap) n (dX n 0) bS bS (w5.alloc (.cells #[.slice (bX ⟨b,off,bI⟩) n cap,.slice (bX ⟨w4.heap.size,0,bI⟩) n n,.bool bS,.bool bS] 91)):=by
      refine⟨?_,av.same (gr (fun _=>False) w5 _) id⟩;rw[← au,df];simp
    have cd:AG (fun _=>False) w1 w5:=by rw[a7];exact ((((GU ae).trans (gk _ w2)).trans (GU ad)).trans (GU aj)).trans (gr _ w4 _)
    obtain⟨j,ay⟩:∃ g,g=w4.heap.size:=⟨_,rfl⟩;have cl:w.heap.size+1<=j:=by rw[ay];have:=bb.size;have:=ae.size;have:=ad.size;have:=aj.size;simp at *;omega
    have b6:b<j:=by rw[ay];have:=ae.size;have:=ad.size;have:=aj.size;simp at *;omega
    rw[← ay] at R au ⊢
    have b2:w5.heap[w.heap.size]? = bX (.cells #[.slice bI 0 0,.slice bI 0 0,.bool bS,.bool bS] 91 (0,0)):=by
      have f0:w.heap.size<w1.heap.size:=by have:=bb.size;simp at this;omega
      rw[cd.block _ f0 id,bb.block _ (d' _)];exact df w _
    obtain⟨ww,a6⟩:∃ ww,ww=w5.alloc (.cells #[.slice (bX ⟨b,off,bI⟩) n cap,.slice (bX ⟨j,0,bI⟩) n n,.bool bS,.bool bS] 91):=⟨_,rfl⟩;have ab:AG (fun _=>False) w5 ww:=by rw[a6];exact gr _ w5 _
    rw[← a6] at R ⊢;have ao:=cd.trans ab;have b0:ww.heap[w.heap.size]? = bX (.cells #[.slice bI 0 0,.slice bI 0 0,.bool bS,.bool bS] 91 (0,0)):=by rw[ab.block _ (by omega) id,b2]
    have b7:Li ww b off o:=h4.out.same ao ew id;have d7:ds w.heap.size w ww:=cn.trans ((CE ab).mono cn.size);have bv:ww.heap.size=j+2:=by rw[a6];simp[au]
    have f2:w1.heap.size<=j:=by rw[ay];have:=ae.size;have:=ad.size;have:=aj.size;simp at *;omega
    have d6:VR (fun q=>q=w.heap.size∨q=j∨q=j+1∨O q) ww (.slice (bX ⟨b,off,bI⟩) n cap) (.sl 1 (ec AV.str o)):=HV.out.mono (ao.mono fun _ _ c=>c.elim) fun q hq c=>by
        rcases c with c|c|c|c
        · exact .inl c
        · omega
        · omega
        · exact .inr c
    have gj:=a' b0;have fm:=a' b7;have J:=a' d7;have gg:=a' d6;have c8:=a' R;have a1:=a' cl;have el:=a' b6;have c7:=a' bv;clear f2 b0 b7 d7 d6 R cl b6 bv a6 ab ao b2 cd ay au a7 cn av bb ae ad aj f5 f4 eu ev f3 c6 d5 d8 ea gb e0 dc ga f8;have g7:((n-1:Nat):Int)=(n:Int)-1:=by omega
    rw[g7];clear g7
    go_loopw [39] (fun i ws=>∃ (k:Nat) (ns:List Int) (f b':Bool),k+1<=n∧i = .int .i64 k∧ns.length=n∧Hid (AG (fun q=>q=j∨q=j+1) ww ws)∧Hid (Lj (j+1) j (.slice (bX ⟨b,off,bI⟩) n cap) n ns f b' ws)∧Hid (AX kinds k (o.drop (k+1)) ns f b'=bX y)) (fun i _=>n-(intOf i).toNat)
    case atStart=>exact⟨0,_,bS,bS,by omega,rfl,by simp[HL.out],a' (e4 _ _),c8,by have h:=HY.out;rw[← HL.out] at h;exact a' h⟩
    case round=>
      obtain⟨k,ns,f,b',k2,rfl,a8,T,a9,hit⟩:=hrel
      by_cases k1:k+1<n
      · obtain⟨X,hX⟩:∃ X,X=o.getD (k+1) default:=⟨_,rfl⟩
        have he:o.drop (k+1)=X::o.drop (k+1+1):=by
          rw[hX,List.drop_eq_getElem_cons (by have:=HL.out;omega),gdE,geE (by have:=HL.out;omega)];rfl
        have d4:=hit.out;rw[he] at d4;obtain⟨hb,f1,I⟩:=my d4
        have qx:wr.cell? ⟨b,off+1+k,bI⟩=bX (strV X):=by
          have h:=(fm.out.same T.out (by have:=el.out;have:=c7.out;omega) (by have:=el.out;omega)) (k+1) (by have:=HL.out;omega);rw[← hX] at h;rw[show off+1+k=off+(k+1) by omega];exact h
        obtain⟨c,hc⟩:∃ c,c=kinds.getD k 0:=⟨_,rfl⟩;rw[← hc] at I;have HC:=a' hc;have HX:=a' hX;have ku:i64.wrap ((k:Int)+1)=(k:Int)+1:=Z1 (by omega);have k4:(0:Int)<=(k:Int)+1:=by omega
        have k3:(k:Int)+1<(n:Int):=by omega
        have be:ds w.heap.size w wr:=⟨T.out.os.trans J.out.os,T.out.tape.trans J.out.tape,T.out.output.trans J.out.output,dw J.out.size T.out.size,fun q hq=>(T.out.block q (bR hq J.out.size) (by have:=a1.out;omega)).trans (J.out.block q hq)⟩;have i4:k<(⟨kinds.toArray⟩:ByteArray).size:=by simpa[ByteArray.size] using hb
        have k5:(⟨kinds.toArray⟩:ByteArray)[k]'i4=c:=by
          rw[hc,gdE,geE hb];rfl
        have db:wr.drew.cell? ⟨j+1,1,bI⟩=bX (.slice (bX ⟨j,0,bI⟩) n n):=by
          have h:=(Lm a9.out.hd).2.1;rw[a8] at h;exact h
        have ff:∀ (w':cL) (u:Value),w'.cell? ⟨j+1,1,bI⟩=bX (.slice (bX ⟨j,0,bI⟩) n n)->(w'.setCell ⟨j,k+1,bI⟩ u).cell? ⟨j+1,1,bI⟩=bX (.slice (bX ⟨j,0,bI⟩) n n):=fun w' u h=>by
          rw[← h];exact GJ (dT w' ⟨j,k+1,bI⟩ (j+1) u (by simp))
        have ej:=a' ff;have ha:=a9.out.lt;have R:Lj (j+1) j (.slice (bX ⟨b,off,bI⟩) n cap) n ns f b' wr.drew:=a9.out.same (gk (fun _=>False) wr) id id;have bo:=a' R;clear hc hX he d4 hit ff R;rcases I with I|I|I|I
        case' inl=>
          obtain⟨b5,q,hq,C⟩:=I;have HQ:=a' hq;have ca:=a' C;have hf:((c.toNat:Nat):Int)=110:=by rw[b5];rfl
          clear hq C b5
          go_wp2
          go_region_held3 (fun w'=>w'.cell? ⟨j+1,1,bI⟩=bX (.slice (bX ⟨j,0,bI⟩) n n)) (first|exact db|exact a0|exact ej.out _ _ a0) (first
            | (go_at_call 101;refine (j4.out X q _ (be.drew) HQ.out).mono ?_;rintro e w9 ⟨rfl,aa⟩;have a0:=(aa.cell (p:=⟨j+1,1,bI⟩) ha.1).trans db;obtain⟨d9,f9⟩:=(bo.out.nu.same (GU aa) id).cell f1;have cb:=a' (bo.out.same (GU aa) id id);have b9:=a' (((gk _ wr).trans (GU aa)):AG (fun _=>False) wr w9)))
          obtain⟨fz,b4⟩:∃ fz,fz=f:=⟨_,rfl⟩;obtain⟨qb,b3⟩:∃ qb,qb=q.2:=⟨_,rfl⟩;obtain⟨cc,ax⟩:∃ l,l=ns.set (k+1) q.1:=⟨_,rfl⟩;have ct:cc.length=n:=by rw[ax,eL,a8]
          have hz:=cb.out.num (by omega) (k+1) q.1;have hs:AG (fun q=>q=j∨q=j+1) wr (w9.setCell ⟨j,k+1,bI⟩ (.int .i64 q.1)):=(b9.out.mono fun _ _ c=>c.elim).trans ((DP ⟨j,k+1,bI⟩ _).mono fun _ _ c=>.inl c);have ac:=ca.out;obtain⟨wz,bs⟩:∃ wz,wz=w9.setCell ⟨j,k+1,bI⟩ (.int .i64 q.1):=⟨_,rfl⟩;rw[← bs] at hz hs ⊢;rw[← ax] at hz ac;rw[← b3] at ac ⊢;rw[← b4] at hz ac;clear b4 bs ax b3 cb b9 d9 f9 a0 aa;have HZ:=a' hz;have e5:=a' hs;have e6:=a' ac
        case' inr.inl=>
          obtain⟨b5,q,hq,C⟩:=I;have HQ:=a' hq;have ca:=a' C;have hf:((c.toNat:Nat):Int)=109:=by rw[b5];rfl
          clear hq C b5
          go_wp2
          go_region_held3 (fun w'=>w'.cell? ⟨j+1,1,bI⟩=bX (.slice (bX ⟨j,0,bI⟩) n n)) (first|exact db|exact a0|exact ej.out _ _ a0) (first
            | (go_at_call 102;refine (h2.out X q _ (be.drew) HQ.out).mono ?_;rintro e w9 ⟨rfl,aa⟩;have a0:=(aa.cell (p:=⟨j+1,1,bI⟩) ha.1).trans db;obtain⟨d9,f9⟩:=(bo.out.nu.same (GU aa) id).cell f1;have cb:=a' (bo.out.same (GU aa) id id);have b9:=a' (((gk _ wr).trans (GU aa)):AG (fun _=>False) wr w9)))
          obtain⟨fz,b4⟩:∃ fz,fz=f:=⟨_,rfl⟩;obtain⟨qb,b3⟩:∃ qb,qb=q.2:=⟨_,rfl⟩;obtain⟨cc,ax⟩:∃ l,l=ns.set (k+1) q.1:=⟨_,rfl⟩;have ct:cc.length=n:=by rw[ax,eL,a8]
          have hz:=cb.out.num (by omega) (k+1) q.1;have hs:AG (fun q=>q=j∨q=j+1) wr (w9.setCell ⟨j,k+1,bI⟩ (.int .i64 q.1)):=(b9.out.mono fun _ _ c=>c.elim).trans ((DP ⟨j,k+1,bI⟩ _).mono fun _ _ c=>.inl c);have ac:=ca.out;obtain⟨wz,bs⟩:∃ wz,wz=w9.setCell ⟨j,k+1,bI⟩ (.int .i64 q.1):=⟨_,rfl⟩;rw[← bs] at hz hs ⊢;rw[← ax] at hz ac;rw[← b3] at ac ⊢;rw[← b4] at hz ac;clear b4 bs ax b3 cb b9 d9 f9 a0 aa;have HZ:=a' hz;have e5:=a' hs;have e6:=a' ac
        case' inr.inr.inl=>
          obtain⟨b5,z,q,fa,hq,C⟩:=I;have j1:=a' fa;have HQ:=a' hq;have ca:=a' C;have hf:((c.toNat:Nat):Int)=102:=by rw[b5];rfl
          clear hq C b5 fa;have hh:=(Lm a9.out.hd).2.2.2.2 2;have hg:=(Lm a9.out.hd).2.2.1
          go_wp2_with (go_at_call 103;refine (j7.out X z _ be j1.out).mono ?_;rintro e w8 ⟨rfl,f6⟩;have e8:=a' (a9.out.same (GU f6) id id);have j0:=(Lm e8.out.hd).2.2.1;have i9:=(Lm e8.out.hd).2.2.2.2 2)
          have ex:=e8.out.faint (by omega) z.2;have b8:AG (fun q=>q=j∨q=j+1) wr (w8.setCell ⟨j+1,2,bI⟩ (.bool z.2)):=((GU f6).mono fun _ _ c=>c.elim).trans ((DP ⟨j+1,2,bI⟩ _).mono fun _ _ c=>.inr c);obtain⟨wf,g4⟩:∃ wf,wf=w8.setCell ⟨j+1,2,bI⟩ (.bool z.2):=⟨_,rfl⟩;rw[← g4] at ex b8 ⊢;have i6:ds w.heap.size w wf:=⟨b8.os.trans be.os,b8.tape.trans be.tape,b8.output.trans be.output,dw be.size b8.size,fun q hq=>(b8.block q (bR hq be.size) (by have:=a1.out;omega)).trans (be.block q hq)⟩;have g9:=ex.lt;have cm:Lj (j+1) j (.slice (bX ⟨b,off,bI⟩) n cap) n ns z.2 b' wf.drew:=ex.same (gk (fun _=>False) wf) id id
          have fi:wf.drew.cell? ⟨j+1,1,bI⟩=bX (.slice (bX ⟨j,0,bI⟩) n n):=by
            have h:=(Lm cm.hd).2.1;rw[a8] at h;exact h
          have ek:=a' cm;have j3:=a' b8;clear ex b8 cm g4 j0 i9 f6 e8 hh hg
          go_region_held3 (fun w'=>w'.cell? ⟨j+1,1,bI⟩=bX (.slice (bX ⟨j,0,bI⟩) n n)) (first|exact fi|exact a0|exact ej.out _ _ a0) (first
            | (go_at_call 102;refine (h2.out z.1 q _ (i6.drew) HQ.out).mono ?_;rintro e w9 ⟨rfl,aa⟩;have a0:=(aa.cell (p:=⟨j+1,1,bI⟩) g9.1).trans fi;obtain⟨d9,f9⟩:=(ek.out.nu.same (GU aa) id).cell f1;have cb:=a' (ek.out.same (GU aa) id id);have b9:=a' ((j3.out.trans (gk _ wf)).trans ((GU aa).mono fun _ _ c=>c.elim):AG (fun q=>q=j∨q=j+1) wr w9)))
          obtain⟨fz,b4⟩:∃ fz,fz=z.2:=⟨_,rfl⟩;obtain⟨qb,b3⟩:∃ qb,qb=q.2:=⟨_,rfl⟩;obtain⟨cc,ax⟩:∃ l,l=ns.set (k+1) q.1:=⟨_,rfl⟩;have ct:cc.length=n:=by rw[ax,eL,a8]
          have hz:=cb.out.num (by omega) (k+1) q.1;have hs:AG (fun q=>q=j∨q=j+1) wr (w9.setCell ⟨j,k+1,bI⟩ (.int .i64 q.1)):=b9.out.trans ((DP ⟨j,k+1,bI⟩ _).mono fun _ _ c=>.inl c);have ac:=ca.out;obtain⟨wz,bs⟩:∃ wz,wz=w9.setCell ⟨j,k+1,bI⟩ (.int .i64 q.1):=⟨_,rfl⟩;rw[← bs] at hz hs ⊢;rw[← ax] at hz ac;rw[← b3] at ac ⊢;rw[← b4] at hz ac;clear b4 bs ax b3 cb b9 d9 f9 a0 aa;have HZ:=a' hz;have e5:=a' hs;have e6:=a' ac
        case' inr.inr.inr=>
          obtain⟨ho,hm,hl,C⟩:=I
          have et:∀ d:UInt8,c≠d->(((c.toNat:Nat):Int)==((d.toNat:Nat):Int))=false:=fun d h=>by
            rw[beq_eq_false_iff_ne];intro e;exact h (UInt8.toNat_inj.1 (by omega))
          have e1:(((c.toNat:Nat):Int)==110)=false:=et 110 ho;have e2:(((c.toNat:Nat):Int)==109)=false:=et 109 hm;have e3:(((c.toNat:Nat):Int)==102)=false:=et 102 hl;clear et;have HZ:=a9;have ca:=a' C;obtain⟨z0,z1,z2,z3,zf⟩:=Lm HZ.out.hd;have ic:=zf 3;clear zf z0 z1 z2 C db;cases b' with
          | false=>
            go_wp2
            go_roundw
            case rel=>exact⟨k+1,ns,f,bS,by omega,by go_num,a8,a' (T.out.trans ((DP ⟨j+1,3,bI⟩ _).mono fun _ _ c=>.inr c)),a' (HZ.out.wrong (by omega) bS),ca⟩
            case measure=>simp[intOf];omega
          | true=>
            go_wp2
            go_roundw
            case rel=>exact⟨k+1,ns,f,ef,by omega,by go_num,a8,a' (T.out.trans ((DP ⟨j+1,3,bI⟩ _).mono fun _ _ c=>.inr c)),a' (HZ.out.wrong (by omega) ef),ca⟩
            case measure=>simp[intOf];omega
        all_goals
          obtain⟨z0,z1,z2,z3,zf⟩:=Lm HZ.out.hd;have ic:=zf 3;clear zf z0 z1 z2 db;cases b' with
          | false=>
            go_wp2
            go_roundw
            case rel=>exact⟨k+1,cc,fz,!qb,by omega,by go_num,ct,a' (T.out.trans (e5.out.trans ((DP ⟨j+1,3,bI⟩ _).mono fun _ _ c=>.inr c))),a' (HZ.out.wrong (by omega) (!qb)),e6⟩
            case measure=>simp[intOf];omega
          | true=>
            go_wp2
            go_roundw
            case rel=>exact⟨k+1,cc,fz,ef,by omega,by go_num,ct,a' (T.out.trans (e5.out.trans ((DP ⟨j+1,3,bI⟩ _).mono fun _ _ c=>.inr c))),a' (HZ.out.wrong (by omega) ef),e6⟩
            case measure=>simp[intOf];omega
      · obtain rfl:k+1=n:=by omega
        have fd:o.drop (k+1)=[]:=h3 (by have:=HL.out;omega);obtain rfl:y=(ns,f,b'):=by have h:=hit.out;rw[fd,AX] at h;exact (Option.some.inj h).symm
        clear hit fd
        have cf:wr.heap[w.heap.size]? = bX (.cells #[.slice bI 0 0,.slice bI 0 0,.bool bS,.bool bS] 91 (0,0)):=by
          rw[T.out.block _ (by have:=c7.out;have:=a1.out;omega) (by have:=a1.out;omega),gj.out]
        obtain⟨r0,r1,r2,r3,rf⟩:=Lm cf;have fy:=rf 0;have fx:=rf 1;have fu:=rf 2;have fs:=rf 3;obtain⟨m0,m1,m2,m3,_⟩:=Lm a9.out.hd;rw[a8] at m1;have dz:=zo (.slice (bX ⟨b,off,bI⟩) (k+1) cap) (.slice (bX ⟨j,0,bI⟩) (k+1) (k+1)) (.bool f) (.bool b') cf;have gf:=a' dz;clear rf cf dz
        go_wp2
        obtain⟨b1,U⟩:=gf.out;obtain⟨w6,d0⟩:∃ w6,w6=((((wr.setCell ⟨w.heap.size,0,bI⟩ (.slice (bX ⟨b,off,bI⟩) (k+1) cap)).setCell ⟨w.heap.size,1,bI⟩ (.slice (bX ⟨j,0,bI⟩) (k+1) (k+1))).setCell ⟨w.heap.size,2,bI⟩ (.bool f)).setCell ⟨w.heap.size,3,bI⟩ (.bool b')):=⟨_,rfl⟩;rw[← d0] at b1 U ⊢;clear d0 r0 r1 r2 r3 fy fx fu fs m0 m1 m2 m3;obtain⟨r0,r1,r2,r3,_⟩:=Lm b1
        (try simp only[Exit.inBlock,Exit.then])
        refine gv (v:=.tuple #[.agg #[.slice (bX ⟨b,off,bI⟩) (k+1) cap,.slice (bX ⟨j,0,bI⟩) (k+1) (k+1),.bool f,.bool b'],.bool ef]) (by rw[e' rfl];go_simp) rfl ?_;have cl:=a1.out;refine⟨_,_,rfl,⟨U.os.trans (T.out.os.trans J.out.os),U.tape.trans (T.out.tape.trans J.out.tape),U.output.trans (T.out.output.trans J.out.output),dw J.out.size (dw T.out.size U.size),fun q hq _=>?_⟩,?_,?_⟩
        · have d1:=bR hq J.out.size;rw[U.block q (bR d1 T.out.size) (fun e=>by have e:q=w.heap.size:=e;omega),T.out.block q d1 (by omega),J.out.block q hq]
        · exact gg.out.mono ((T.out.mono fun q _ c=>c.elim (fun c=>.inr (.inl c)) fun c=>.inr (.inr (.inl c))).trans (U.mono fun q _ c=>.inl c)) fun _ _ c=>.inr (.inr (.inr c))
        · have h:=wJ (S:=O) (cap:=k+1) (a9.out.nu.same U (fun e=>by have e:j=w.heap.size:=e;omega)) (by omega) (fun e=>by have:=HO.out _ e;have:=a1.out;omega);rw[a8] at h;exact h
  · obtain rfl:n=1:=by omega
    obtain rfl:cap=1:=by omega
    go_wp2_with (refine hM _ rfl _ _ 44 rfl 2 i0 _ Tg hi g3 g0 rfl .i64 .i64 1 rfl rfl (by rw[gw];omega) (by omega) ?_)
    have av:Ln (w4.alloc (.cells (e9 #[.int .i64 0] 1) 2)) w4.heap.size (dX 1 0):=by
      unfold Ln;rw[df,de]
    have au:(w4.alloc (.cells (e9 #[.int .i64 0] 1) 2)).heap.size=w4.heap.size+1:=by simp
    obtain⟨w5,a7⟩:∃ w5,w5=w4.alloc (.cells (e9 #[.int .i64 0] 1) 2):=⟨_,rfl⟩;have cn:ds w.heap.size w w5:=by rw[a7];exact dc.alloc dc.size _
    rw[← a7] at av au ⊢
    have R:Lj (w4.heap.size+1) w4.heap.size (.slice (bX ⟨b,off,bI⟩) 1 1) 1 (dX 1 0) bS bS (w5.alloc (.cells #[.slice (bX ⟨b,off,bI⟩) 1 1,.slice (bX ⟨w4.heap.size,0,bI⟩) 1 1,.bool bS,.bool bS] 91)):=by
      refine⟨?_,av.same (gr (fun _=>False) w5 _) id⟩;rw[← au,df];simp
    have cd:AG (fun _=>False) w1 w5:=by rw[a7];exact ((((GU ae).trans (gk _ w2)).trans (GU ad)).trans (GU aj)).trans (gr _ w4 _)
    obtain⟨j,ay⟩:∃ g,g=w4.heap.size:=⟨_,rfl⟩;have cl:w.heap.size+1<=j:=by rw[ay];have:=bb.size;have:=ae.size;have:=ad.size;have:=aj.size;simp at *;omega
    have b6:b<j:=by rw[ay];have:=ae.size;have:=ad.size;have:=aj.size;simp at *;omega
    rw[← ay] at R au ⊢
    have b2:w5.heap[w.heap.size]? = bX (.cells #[.slice bI 0 0,.slice bI 0 0,.bool bS,.bool bS] 91 (0,0)):=by
      have f0:w.heap.size<w1.heap.size:=by have:=bb.size;simp at this;omega
      rw[cd.block _ f0 id,bb.block _ (d' _)];exact df w _
    obtain⟨ww,a6⟩:∃ ww,ww=w5.alloc (.cells #[.slice (bX ⟨b,off,bI⟩) 1 1,.slice (bX ⟨j,0,bI⟩) 1 1,.bool bS,.bool bS] 91):=⟨_,rfl⟩;have ab:AG (fun _=>False) w5 ww:=by rw[a6];exact gr _ w5 _
    rw[← a6] at R ⊢;have ao:=cd.trans ab;have b0:ww.heap[w.heap.size]? = bX (.cells #[.slice bI 0 0,.slice bI 0 0,.bool bS,.bool bS] 91 (0,0)):=by rw[ab.block _ (by omega) id,b2]
    have b7:Li ww b off o:=h4.out.same ao ew id;have d7:ds w.heap.size w ww:=cn.trans ((CE ab).mono cn.size);have bv:ww.heap.size=j+2:=by rw[a6];simp[au]
    have f2:w1.heap.size<=j:=by rw[ay];have:=ae.size;have:=ad.size;have:=aj.size;simp at *;omega
    have d6:VR (fun q=>q=w.heap.size∨q=j∨q=j+1∨O q) ww (.slice (bX ⟨b,off,bI⟩) 1 1) (.sl 1 (ec AV.str o)):=HV.out.mono (ao.mono fun _ _ c=>c.elim) fun q hq c=>by
        rcases c with c|c|c|c
        · exact .inl c
        · omega
        · omega
        · exact .inr c
    have gj:=a' b0;have fm:=a' b7;have J:=a' d7;have gg:=a' d6;have c8:=a' R;have a1:=a' cl;have el:=a' b6;have c7:=a' bv;clear f2 b0 b7 d7 d6 R cl b6 bv a6 ab ao b2 cd ay au a7 cn av bb ae ad aj f5 f4 eu ev f3 c6 d5 d8 ea gb e0 dc ga f8;have c5:o.length=1:=HL.out.symm
    obtain rfl:y=(dX 1 0,bS,bS):=by
      have h:=HY.out;rw[h3 (by omega),c5,AX] at h;exact (Option.some.inj h).symm
    go_loopw [39] (fun i ws=>i = .int .i64 0∧ws=ww) (fun i _=>0)
    case atStart=>exact⟨rfl,rfl⟩
    case round=>
      obtain⟨rfl,rfl⟩:=hrel
      have cf:wr.heap[w.heap.size]? = bX (.cells #[.slice bI 0 0,.slice bI 0 0,.bool bS,.bool bS] 91 (0,0)):=by
        rw[(e4 (fun q=>q=j∨q=j+1) wr).block _ (by have:=c7.out;have:=a1.out;omega) (by have:=a1.out;omega),gj.out]
      obtain⟨r0,r1,r2,r3,rf⟩:=Lm cf;have fy:=rf 0;have fx:=rf 1;have fu:=rf 2;have fs:=rf 3;obtain⟨m0,m1,m2,m3,_⟩:=Lm c8.out.hd;have dz:=zo (.slice (bX ⟨b,off,bI⟩) 1 1) (.slice (bX ⟨j,0,bI⟩) 1 1) (.bool bS) (.bool bS) cf;have gf:=a' dz;clear rf cf dz
      go_wp2
      obtain⟨b1,U⟩:=gf.out;obtain⟨w6,d0⟩:∃ w6,w6=((((wr.setCell ⟨w.heap.size,0,bI⟩ (.slice (bX ⟨b,off,bI⟩) 1 1)).setCell ⟨w.heap.size,1,bI⟩ (.slice (bX ⟨j,0,bI⟩) 1 1)).setCell ⟨w.heap.size,2,bI⟩ (.bool bS)).setCell ⟨w.heap.size,3,bI⟩ (.bool bS)):=⟨_,rfl⟩;rw[← d0] at b1 U ⊢;clear d0 r0 r1 r2 r3 fy fx fu fs m0 m1 m2 m3;obtain⟨r0,r1,r2,r3,_⟩:=Lm b1
      (try simp only[Exit.inBlock,Exit.then])
      refine gv (v:=.tuple #[.agg #[.slice (bX ⟨b,off,bI⟩) 1 1,.slice (bX ⟨j,0,bI⟩) 1 1,.bool bS,.bool bS],.bool ef]) (by rw[e' rfl];go_simp) rfl ?_;have cl:=a1.out;refine⟨_,_,rfl,⟨U.os.trans ((e4 (fun q=>q=j∨q=j+1) wr).os.trans J.out.os),U.tape.trans ((e4 (fun q=>q=j∨q=j+1) wr).tape.trans J.out.tape),U.output.trans ((e4 (fun q=>q=j∨q=j+1) wr).output.trans J.out.output),dw J.out.size (dw (e4 (fun q=>q=j∨q=j+1) wr).size U.size),fun q hq _=>?_⟩,?_,?_⟩
      · have d1:=bR hq J.out.size;rw[U.block q (bR d1 (e4 (fun q=>q=j∨q=j+1) wr).size) (fun e=>by have e:q=w.heap.size:=e;omega),(e4 (fun q=>q=j∨q=j+1) wr).block q d1 (by omega),J.out.block q hq]
      · exact gg.out.mono (U.mono fun q _ c=>.inl c) fun _ _ c=>.inr (.inr (.inr c))
      · have h:=wJ (S:=O) (cap:=1) (c8.out.nu.same U (fun e=>by have e:j=w.heap.size:=e;omega)) (by simp) (fun e=>by have:=HO.out _ e;have:=a1.out;omega);exact h
end Go.Proofs.YtegmpdmpgmpiaaaGreatDoor.rdc
