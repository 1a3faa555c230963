/- Lemmas. No condition. -/
import Derived.Test.YtegmpdmpgmpiaaaGreatDoorP3
import Derived.Lib.Hide
import Derived.Deep.AppendLies
import Derived.Deep.OwnRows
import Derived.Deep.RegionHeld3
import Derived.BigQuiet
open Array renaming getElem?_eq_none->en,ext'->hY
open Bool renaming false->bS,true->fm,not_eq_true'->hL
open Go renaming World->cI,heap_setCell_same->cS,heap_alloc_new->dT,heap_setCell_other->e7,madeCells->eL,results_cell_tmp->fB,Calls->fI,TypeId->hB,bodyPost_ret->hD,undef->hP,Program->hT,wpList_make_row->iB
open Go.Lib renaming hid->a'
open Go.Proofs.Tryz renaming prog->c',ntmps58->hR,func58->hW
open Go.Proofs.YtegmpdmpgmpiaaaGreatDoor.AD renaming refl->ek,drew->gu,alloc->hA
open Go.RowKit renaming Below->dU
open List renaming setIfInBounds_toArray->bN,set_cons_zero->cA,set_cons_succ->cB,replicate->e8,map->e',length_set->fA,range->hE,drop_eq_nil_of_le->hG,mem_of_getElem?->hI,getElem?_range->hJ,all_eq_true->hM,mem_range->hN
open Nat renaming lt_of_lt_of_le->bR,le_trans->d',lt_succ_self->ej,lt_or_ge->fp,le_refl->gf,zero_add->hH,add_zero->hV,mul_one->hZ,le_succ->h'
open Option renaming none->bI,some->bX
set_option linter.defProp false
set_option linter.unusedSimpArgs false
set_option linter.unusedVariables false
set_option maxRecDepth 100000
set_option maxHeartbeats 8000000
open Go.IntKind (i64 u64)
namespace Go.Proofs.YtegmpdmpgmpiaaaGreatDoor
open Go Go.RowKit
def TN{S:Nat->Prop}{w:cI}{g:Gh}{ob:Cx}{k:Nat}{v:Value}{a:AV}(j:KB a=bS)(h:yj S w g ob k v a):VR S w v a:=by
 cases a<;>first|exact h|(simp[KB]at j)
def EZ{P:hT}{f:FuncId}{C:Ao}{fu:Func}{c:Code}(hC:Cd P f C)(hf:P.funcs[f]? = bX fu)(hb:fu.body=bX c)(hn:(fu.name == "runtime.NumGoroutine")=bS)
  {args:List AV} {vargs:Array Value} {w:cI} (az:vargs.size=args.length) (a1:GN C.modes args=fm) (ad:args.all (fun a=>!Ho a)=fm) (hv:∀j,j<args.length->VR C' w (vargs.getD j hP) (args.getD j .any)) (a8:GT C' w) {r:AV} {outs:List AV}
  (hF:C.F args=⟨fm,r,outs⟩):fI P f vargs w fun e w'=>∃v,e = .returned v/\AD C' w w'/\VR C' w' v (RY r):=by
 have U:∀j,Ho (args.getD j .any)=bS:=by
  intro j;simp only[hM,hL]at ad;rw[gdE];cases hj:args[j]? with
  |none=>rfl
  |some a=>exact ad a (hI hj)
 have a6:∀k,AK k (BN 0 args)=bI:=by
  intro k;cases hg:AK k (BN 0 args)with
  |none=>rfl
  | some hm=>
   obtain⟨j,_,hf⟩:=Kp hg;have:=U j;revert hf this;generalize args.getD j .any=x;intro hf this;cases x<;>simp[IC,Ho]at hf this
 have I:∀k,¬ Lb (BN 0 args) k:=fun k ⟨hm,hg⟩=>by rw[a6 k]at hg;cases hg
 have ba:FR C' ⟨fun _=>0,fun _=>0⟩ w vargs (hE args.length) [] (Mh args):=by
  refine⟨fun k hm hg=>(I k ⟨hm,hg⟩).elim,fun k _ hk=>(I k hk.1).elim,fun k hk=>(I k hk.1).elim,fun b hb=>hb.elim,by simp[Mh,Ko],rfl,fun j hj=>?_,fun j hj=>by simp at hj,fun t ht=>?_,a8.mono (ek _ _) fun b _ hb=>?_⟩
  .have aj:j<args.length:=by simpa using hj
   have e1:(hE args.length).getD j 0=j:=by rw[gdE,hJ aj];rfl
   rw[e1];simp only[Mh];rw[Ln _ 0 j aj,hH]
   have e2:YO j (args.getD j .any)=args.getD j .any:=by
    have:=U j;revert this;generalize args.getD j .any=x;intro this;cases x<;>first|rfl|(simp[Ho]at this)
   rw[e2];refine((hv j aj).mono (ek _ _) fun b _ hb=>?_).toSR;rcases hb with hb|⟨k,hk,_⟩
   .exact hb
   .exact I k hk.1
  .rcases ht with ht|ht
   .have:=hN.1 ht;omega
   .simp at ht
  .rcases hb with hb|⟨k,hk,_⟩
   .exact hb
   .exact I k hk.1
 have h:=(hC.2 _ _ w args vargs a1 az ba (by rw[hF])).2;rw[hF]at h;unfold DJ at h;rw[LD hf hb hn]at h;refine Calls.mono h fun e w' he=>?_
 obtain⟨v,g,ob,κ,rfl,B⟩:=he;have ae:AD C' w w':=B.same.mono fun b _ ⟨k,hk,_⟩=>(I k hk.1).elim
 have R:=(cF B).val;refine⟨v,rfl,ae,?_⟩;revert R;generalize J:(RY r)=q;have I:∀i,¬ Kd q i:=fun i hi=>RC (J▸hi)
 generalize(JE _ ob)=ob';intro R;have sub:∀{u:Value} {a:AV},VR (AR C' g ob') w' u a->VR C' w' u a:=fun h=>h.mono (ek _ _) fun _ _ c=>c.elim
 cases q
 case tup cs=>
  obtain⟨vs,rfl,hn,ay⟩:=R;refine .tup hn fun j hj=>sub (TN ?_ (ay j hj))
  cases bb:KB (cs.getD j .any)with
  |false=>rfl
  |true=>exact(I (j+1) ⟨j,rfl,hj,bb⟩).elim
 all_goals
  refine sub (TN (g:=g) (ob:=ob') (k:=κ 0) ?_ R);first|rfl|exact(I 0 ⟨rfl,rfl⟩).elim
variable{w:cI}
def IF{W:cI}(h:dU w.heap.size w W):AD C' w W:=⟨h.os,h.tape,h.output,h.size,fun b hb _=>h.block b hb⟩
def DS{w':cI}(h:AD C' w w'):dU w.heap.size w w':=⟨h.os,h.tape,h.output,h.size,fun k j=>h.block k j fun c=>c⟩
def DR{O:Nat->Prop}{P:hT}{f:FuncId}{C:Ao}{fu:Func}{c:Code}(hC:Cd P f C)(hf:P.funcs[f]? = bX fu)(hb:fu.body=bX c)(hn:(fu.name == "runtime.NumGoroutine")=bS)
  {args:List AV} {vargs:Array Value} {w:cI} (az:vargs.size=args.length) (a1:GN C.modes args=fm) (ad:args.all (fun a=>!Ho a)=fm) (hv:∀j,j<args.length->VR O w (vargs.getD j hP) (args.getD j .any)) (hO:∀b,O b->b<w.heap.size) (a8:GT O w) {r:AV} {outs:List AV}
  (hF:C.F args=⟨fm,r,outs⟩):fI P f vargs w fun e w'=>∃v,e = .returned v/\AD C' w w'/\VR O w' v (RY r):=by
 have U:∀j,Ho (args.getD j .any)=bS:=by
  intro j;simp only[hM,hL]at ad;rw[gdE];cases hj:args[j]? with
  |none=>rfl
  |some a=>exact ad a (hI hj)
 have a6:∀k,AK k (BN 0 args)=bI:=by
  intro k;cases hg:AK k (BN 0 args)with
  |none=>rfl
  | some hm=>
   obtain⟨j,_,hf⟩:=Kp hg;have:=U j;revert hf this;generalize args.getD j .any=x;intro hf this;cases x<;>simp[IC,Ho]at hf this
 have I:∀k,¬ Lb (BN 0 args) k:=fun k ⟨hm,hg⟩=>by rw[a6 k]at hg;cases hg
 have ba:FR O ⟨fun _=>0,fun _=>0⟩ w vargs (hE args.length) [] (Mh args):=by
  refine⟨fun k hm hg=>(I k ⟨hm,hg⟩).elim,fun k _ hk=>(I k hk.1).elim,fun k hk=>(I k hk.1).elim,hO,by simp[Mh,Ko],rfl,fun j hj=>?_,fun j hj=>by simp at hj,fun t ht=>?_,a8.mono (ek _ _) fun b _ hb=>?_⟩
  .have aj:j<args.length:=by simpa using hj
   have e1:(hE args.length).getD j 0=j:=by rw[gdE,hJ aj];rfl
   rw[e1];simp only[Mh];rw[Ln _ 0 j aj,hH]
   have e2:YO j (args.getD j .any)=args.getD j .any:=by
    have:=U j;revert this;generalize args.getD j .any=x;intro this;cases x<;>first|rfl|(simp[Ho]at this)
   rw[e2];refine((hv j aj).mono (ek _ _) fun b _ hb=>?_).toSR;rcases hb with hb|⟨k,hk,_⟩
   .exact hb
   .exact(I k hk.1).elim
  .rcases ht with ht|ht
   .have:=hN.1 ht;omega
   .simp at ht
  .rcases hb with hb|⟨k,hk,_⟩
   .exact hb
   .exact(I k hk.1).elim
 have h:=(hC.2 _ _ w args vargs a1 az ba (by rw[hF])).2;rw[hF]at h;unfold DJ at h;rw[LD hf hb hn]at h;refine Calls.mono h fun e w' he=>?_
 obtain⟨v,g,ob,κ,rfl,B⟩:=he;have ae:AD C' w w':=B.same.mono fun b _ ⟨k,hk,_⟩=>(I k hk.1).elim
 have R:=(cF B).val;refine⟨v,rfl,ae,?_⟩;revert R;generalize J:(RY r)=q;have I:∀i,¬ Kd q i:=fun i hi=>RC (J▸hi)
 generalize(JE _ ob)=ob';intro R;have sub:∀{u:Value} {a:AV},VR (AR O g ob') w' u a->VR O w' u a:=fun h=>h.mono (ek _ _) fun _ _ c=>.inl c
 cases q
 case tup cs=>
  obtain⟨vs,rfl,hn,ay⟩:=R;refine .tup hn fun j hj=>sub (TN ?_ (ay j hj))
  cases bb:KB (cs.getD j .any)with
  |false=>rfl
  |true=>exact(I (j+1) ⟨j,rfl,hj,bb⟩).elim
 all_goals
  refine sub (TN (g:=g) (ob:=ob') (k:=κ 0) ?_ R);first|rfl|exact(I 0 ⟨rfl,rfl⟩).elim
end Go.Proofs.YtegmpdmpgmpiaaaGreatDoor
namespace Go.Proofs.YtegmpdmpgmpiaaaGreatDoor.plot
open Go Go.RowKit
def strV(l:L8):Value:=.string ⟨l.toArray⟩
def MQ(l:List L8):List Value:=l.map strV
def RZ(N:Nat)(w:cI)(v:Value)(l:List L8):Prop:=w.ownsRow N 9 1 v l.length (MQ l)
def Kh{w:cI}{N:Nat}{e:hB}{sz n:Nat}{v:Value}{xs:List Value}(h:w.ownsRow N e sz v n xs){b:Nat}(hb:v.ownBlock=bX b):N<=b/\b<w.heap.size:=by
 rcases h.2 with⟨rfl,_⟩|⟨g,cap,cur,rfl,C,h2,_⟩
 .cases hb
 .obtain rfl:g=b:=by simpa[Value.ownBlock]using hb
  refine⟨C,?_⟩;rcases fp g w.heap.size with j |j
  .exact j
  .rw[en j]at h2;cases h2
variable{w w':cI}{N sz n:Nat}{e:hB}{v:Value}
theorem LG{K:Nat->Prop}{xs:List Value}(h:w.ownsRow N e sz v n xs)(hs:AD K w w')(C:∀b,v.ownBlock=bX b->¬ K b):w'.ownsRow N e sz v n xs:=by
 refine⟨h.1,?_⟩;rcases h.2 with j|⟨g,cap,cur,rfl,j,h2,I⟩
 .exact .inl j
 .refine .inr ⟨g,cap,cur,rfl,j,?_,I⟩;have hb:(Value.slice (bX ⟨g,0,bI⟩) n cap).ownBlock=bX g:=rfl;rw[hs.block g (Kh (N:=N) h hb).2 (C g hb),h2]
def Nz{w:cI}{N g n c:Nat}{e:hB}{xs:List Value}(h:w.ownsRow N e 1 (.slice (bX ⟨g,0,bI⟩) n c) n xs){i:Nat}(hi:i<n):w.cell? ⟨g,i,bI⟩=bX (xs.getD i hP):=by
 rcases h.2 with⟨J,_⟩|⟨g',cap,cur,j,hb,I,hle,_,hs,C⟩
 .cases J
 .cases j
  rw[cell_of_row w g i cur e (0,0) I,←C,gdE,List.getElem?_take_of_lt n',Array.getElem?_toList];have:i<cur.size:=n'
  rw[Array.getElem?_eq_getElem this];rfl
def Tc{xs:List Value}(h:w.ownsRow N e sz v n xs)(C:0<n):∃g c,v = .slice (bX ⟨g,0,bI⟩) n c:=by
 rcases h.2 with⟨rfl,j⟩|⟨g,cap,cur,rfl,_⟩
 .omega
 .exact⟨_,_,rfl⟩
def Pb{xs:List Value}(h:w.ownsRow N e sz v n xs){b:Nat}(hb:v.ownBlock=bX b):∃cur fr,w.heap[b]? = bX (.cells cur e fr):=by
 rcases h.2 with⟨rfl,_⟩|⟨g,cap,cur,rfl,j,h2,_⟩
 .cases hb
 .obtain rfl:g=b:=by simpa[Value.ownBlock]using hb
  exact⟨_,_,h2⟩
def qU{row:Option Nat}(h:w.grownBy w' row):AD (fun b=>bX b=row) w w':=⟨h.os,h.tape,h.output,h.size,fun b hb j=>h.block b hb j⟩
def kH(w:cI){T:hB}:(w.alloc (.cells #[] T)).ownsRow w.heap.size T 1 (.slice (bX ⟨w.heap.size,0,bI⟩) 0 0) 0 [] :=
 ⟨rfl,.inr ⟨w.heap.size,0,#[],rfl,gf _,dT w _,gf _,Nat.zero_le _,rfl,rfl⟩⟩
def Qj{C:Nat}{xs:List Value}(h:w.ownsRow N e sz v n xs)(J:C<=N):w.ownsRow C e sz v n xs:=by
 refine⟨h.1,?_⟩;rcases h.2 with j|⟨g,cap,cur,I,j,h2⟩
 .exact .inl j
 .exact .inr ⟨g,cap,cur,I,n',h2⟩
def Cs{K J:Nat->Prop}{a b c:cI}(h:AD K a b)(j:AD J b c)(R:∀x,x<a.heap.size->J x->K x):AD K a c :=
 ⟨j.os.trans h.os,j.tape.trans h.tape,j.output.trans h.output,d' h.size j.size,fun x C I=>(j.block x (bR C h.size) fun c=>I (R x C c)).trans (h.block x C I)⟩
def CB{w:cI}(a:Addr)(v:Value):AD (fun b=>b=a.block) w (w.setCell a v):=⟨rfl,rfl,rfl,by simp[World.setCell],fun b _ j=>e7 w a b v j⟩
end Go.Proofs.YtegmpdmpgmpiaaaGreatDoor.plot
namespace Go.Proofs.YtegmpdmpgmpiaaaGreatDoor.plot
open Go Go.RowKit
section
variable {P:hT}
end
end Go.Proofs.YtegmpdmpgmpiaaaGreatDoor.plot
namespace Go.Proofs.YtegmpdmpgmpiaaaGreatDoor.rdc
open Go Go.RowKit plot
def OD(W:cI)(b off:Nat)(l:List L8):Prop:=∀k,k<l.length->W.cell? ⟨b,off+k,bI⟩=bX (strV (l.getD k default))
variable{S:Nat->Prop}{w:cI}
def words_of{v:Value}{l:List L8}(h:VR S w v (.sl 1 (e' AV.str l)))(h0:0<l.length):
    ∃b off cap,v = .slice (bX ⟨b,off,bI⟩) l.length cap/\b<w.heap.size/\¬ S b/\OD w b off l/\l.length<=cap:=by
  cases h with
  | @sl a n cap sz els b off rd I C U ha hc hw hr=>
    have J:(e' AV.str l).length=l.length:=p'
    obtain⟨e,hS⟩:=ha n';have hb:=World.block_lt_of_cell? w ⟨b,off+(0*1+0),bI⟩ (hw 0 0 n' n');refine⟨b,off,cap,by rw[I,J,e],hb,hS,fun k hk=>?_,by rw[←J,←I];exact C⟩;have R:=hw k 0 n' n';have h2:=hr k 0 n' n';have j:(e' AV.str l).getD k .any = .str (l.getD k default):=by simp[gdE,hk]
    rw[j]at h2;rw[hZ,hV]at R;rw[R];have h2:VR S w (rd k 0) (.str (l.getD k default)):=h2;generalize rd k 0=u at h2;cases h2;rfl
def OD.same{K:Nat->Prop}{W C:cI}{b off:Nat}{l:List L8}(h:OD W b off l)(hs:AD K W C)(hb:b<W.heap.size)(I:¬ K b):OD C b off l:=fun k j=>by
  rw[←h k j];exact Gv (hs.block b hb I)
def XQ(l:List Int):List Value:=l.map (Value.int .i64)
def Mr(w:cI)(g:Nat)(l:List Int):Prop:=w.heap[g]? = bX (.cells (XQ l).toArray 2 (0,0))
def Mr.cell{w:cI}{g:Nat}{l:List Int}(h:Mr w g l){j:Nat}(C:j<l.length):w.cell? ⟨g,j,bI⟩=bX (.int .i64 (l.getD j 0))/\w.frozen? ⟨g,j,bI⟩=bS:=by
  refine⟨?_,by unfold World.frozen?;rw[h];rfl⟩;rw[cell_of_row w g j _ _ _ h];simp[XQ,gdE,C]
def Mr.set{g:Nat}{l:List Int}(h:Mr w g l)(j:Nat)(z:Int):Mr (w.setCell ⟨g,j,bI⟩ (.int .i64 z)) g (l.set j z):=by
  unfold Mr;rw[cS w g j _ _ _ h]
  congr 2
  unfold XQ;apply hY;rw[Array.toList_setIfInBounds];simp[List.map_set]
def Mr.same{K:Nat->Prop}{w w':cI}{g:Nat}{l:List Int}(h:Mr w g l)(hs:AD K w w')(I:¬ K g):Mr w' g l:=by
  have C:g<w.heap.size:=by
    rcases fp g w.heap.size with c|c
    · exact c
    · have j:w.heap[g]? = _:=h;rw[en c]at j;cases j
  unfold Mr;rw[hs.block g C I];exact h
def AAS{S:Nat->Prop}{w:cI}{g cap:Nat}{l:List Int}(h:Mr w g l)(I:l.length<=cap)(J:¬ S g):VR S w (.slice (bX ⟨g,0,bI⟩) l.length cap) (.sl 1 (e' (AV.int .i64) l)):=by
  have one:∀i,i<l.length->(e' (AV.int .i64) l).getD i .any = .int .i64 (l.getD i 0):=fun i hi=>by
    simp[gdE,hi]
  refine .sl g 0 (fun i j=>.int .i64 (l.getD i 0)) p' I n' (fun _=>⟨rfl,J⟩) (fun i hi=>?_) (fun i j hi C=>?_) (fun i j hi C=>?_)
  · rw[one i (by simpa using hi)];exact⟨rfl,rfl⟩
  · obtain rfl:j=0:=n'
    rw[hH,hZ,hV];exact(h.cell (by simpa using hi)).1
  · obtain rfl:j=0:=n'
    rw[one i (by simpa using hi)];exact .int
structure Mj(cb gn:Nat)(ws:Value)(cap:Nat)(ns:List Int)(f b:Bool)(w:cI):Prop where
  hd:w.heap[cb]? = bX (.cells #[ws,.slice (bX ⟨gn,0,bI⟩) ns.length cap,.bool f,.bool b] 91 (0,0))
  nu:Mr w gn ns
variable{b:Bool}{I v1 v2:Value}{C:Nat}{T:hB}
def Mq{b:Nat}{C:Value}(h:w.heap[b]? = bX (.cells #[I,v1,v2,C] T (0,0))):
    w.cell? ⟨b,0,bI⟩=bX I/\w.cell? ⟨b,1,bI⟩=bX v1/\w.cell? ⟨b,2,bI⟩=bX v2/\w.cell? ⟨b,3,bI⟩=bX C/\∀j,w.frozen? ⟨b,j,bI⟩=bS:=by
  refine⟨?_,?_,?_,?_,fun j=>?_⟩
  · unfold World.cell?;rw[h];rfl
  · unfold World.cell?;rw[h];rfl
  · unfold World.cell?;rw[h];rfl
  · unfold World.cell?;rw[h];rfl
  · unfold World.frozen?;rw[h];rfl
variable{R:List Int}{cap:Nat}{f:Bool}
def Mj.num{I:Nat}{R:Value}{U:List Int}(h:Mj I C R cap U f b w)(J:I≠C)(j:Nat)(z:Int):Mj I C R cap (U.set j z) f b (w.setCell ⟨C,j,bI⟩ (.int .i64 z)) :=
  ⟨by rw[e7 w ⟨C,j,bI⟩ I _ J,h.hd,fA],h.nu.set j z⟩
variable{j:Nat}{J:Value}
def Mj.wrong(h:Mj j C J cap R f b w)(I:j≠C)(U:Bool):Mj j C J cap R f U (w.setCell ⟨j,3,bI⟩ (.bool U)) :=
  ⟨(cS w j 3 _ _ _ h.hd).trans rfl,by unfold Mr;rw[e7 w ⟨j,3,bI⟩ C _ (fun e=>I e.symm)];exact h.nu⟩
def Mj.faint(h:Mj j C J cap R f b w)(I:j≠C)(f':Bool):Mj j C J cap R f' b (w.setCell ⟨j,2,bI⟩ (.bool f')) :=
  ⟨(cS w j 2 _ _ _ h.hd).trans rfl,by unfold Mr;rw[e7 w ⟨j,2,bI⟩ C _ (fun e=>I e.symm)];exact h.nu⟩
def Mj.lt{J:List Int}(h:Mj C j I cap J f b w):C<w.heap.size/\j<w.heap.size:=by
  refine⟨?_,?_⟩
  · rcases fp C w.heap.size with c|c
    · exact c
    · have:=h.hd;rw[en c]at this;cases this
  · rcases fp j w.heap.size with c|c
    · exact c
    · have:w.heap[j]? = _:=h.nu;rw[en c]at this;cases this
def Mj.same{K:Nat->Prop}{j C:Nat}{I:Value}{cap:Nat}{J:List Int}{f b:Bool}{w w':cI}(h:Mj j C I cap J f b w)(hs:AD K w w')(R:¬ K j)(h2:¬ K C):Mj j C I cap J f b w' :=
  ⟨by rw[hs.block j h.lt.1 R,h.hd],h.nu.same hs h2⟩
def qh{kinds X:L8}{i:Nat}{r:List L8}{j:List Int}{y:List Int×Bool×Bool}(h:AZ kinds i (X::r) j f b=bX y):
    i<kinds.length/\i+1<j.length /\
      ((kinds.getD i 0=110/\∃q,Ma X=bX q/\AZ kinds (i+1) r (j.set (i+1) q.1) f (b || !q.2)=bX y) \/
       (kinds.getD i 0=109/\∃q,CN X=bX q/\AZ kinds (i+1) r (j.set (i+1) q.1) f (b || !q.2)=bX y) \/
       (kinds.getD i 0=102/\∃z q,Cg X [60]=bX z/\CN z.1=bX q/\AZ kinds (i+1) r (j.set (i+1) q.1) z.2 (b || !q.2)=bX y) \/
       (kinds.getD i 0≠110/\kinds.getD i 0≠109/\kinds.getD i 0≠102/\AZ kinds (i+1) r j f b=bX y)):=by
  rw[AZ]at h;obtain⟨R,h⟩:=AY h;obtain⟨h2,h⟩:=AY h;refine⟨of_decide_eq_true R,of_decide_eq_true h2,?_⟩;generalize kinds.getD i 0=c at h;split at h
  · rename_i I;obtain⟨q,C,h⟩:=AO h;exact .inl ⟨by simpa using I,q,C,h⟩
  · rename_i I;split at h
    · rename_i hd;obtain⟨q,C,h⟩:=AO h;exact .inr (.inl ⟨by simpa using hd,q,C,h⟩)
    · rename_i hd;split at h
      · rename_i he;obtain⟨z,J,h⟩:=AO h;obtain⟨q,C,h⟩:=AO h;exact .inr (.inr (.inl ⟨by simpa using he,z,q,J,C,h⟩))
      · rename_i he;exact .inr (.inr (.inr ⟨by simpa using I,by simpa using hd,by simpa using he,h⟩))
def RdEnd(O:Nat->Prop)(r:Cm×Bool)(w:cI)(e:Ending)(w':cI):Prop := ∃ws nu,e = .returned (.tuple #[.agg #[ws,nu,.bool r.1.fainter_,.bool r.1.wrong_],.bool r.2])/\AD C' w w' /\ VR O w' ws (.sl 1 (e' AV.str r.1.words_))/\VR O w' nu (.sl 1 (e' (AV.int .i64) r.1.numbers_))
def kG:VR S w (.slice bI 0 0) (.sl 1 []) :=
  .sl 0 0 (fun _ _=>hP) rfl (gf _) n' (fun h=>absurd h p') (fun i hi=>absurd hi p') (fun i j hi=>absurd hi p') (fun i j hi=>absurd hi p')
def aq:(c'.info? 2).map (fun i=>(i.zero,i.size,i.bytes))=bX (bX (.int .i64 0),1,8):=o'
def Uw:c'.underlying 44=bX (.slice 2):=o'
def ia(k:Nat):eL #[Value.int .i64 0] k=(XQ (e8 k 0)).toArray:=by
  apply hY;unfold XQ;have j:(eL #[Value.int .i64 0] k).size=k:=by simp[eL]
  refine List.ext_getElem (by simp[j]) fun i h2 C=>?_
  have:i%1=0:=Nat.mod_one i;simp[eL,this]
def AEL{b:Nat}{U R:Value}(J I C j:Value)(h:w.heap[b]? = bX (.cells #[U,v1,v2,R] T (0,0))):
    ((((w.setCell ⟨b,0,bI⟩ J).setCell ⟨b,1,bI⟩ I).setCell ⟨b,2,bI⟩ C).setCell ⟨b,3,bI⟩ j).heap[b]? = bX (.cells #[J,I,C,j] T (0,0))/\AD (fun k=>k=b) w ((((w.setCell ⟨b,0,bI⟩ J).setCell ⟨b,1,bI⟩ I).setCell ⟨b,2,bI⟩ C).setCell ⟨b,3,bI⟩ j):=by
  have h0:=cS w b 0 _ _ J h;have h1:=cS _ b 1 _ _ I h0;have h2:=cS _ b 2 _ _ C h1;have h3:=cS _ b 3 _ _ j h2;exact⟨h3.trans rfl,(((CB (w:=w) ⟨b,0,bI⟩ J).trans (CB ⟨b,1,bI⟩ I)).trans (CB ⟨b,2,bI⟩ C)).trans (CB ⟨b,3,bI⟩ j)⟩
section
variable {P:hT}{ops:Array Oper}{Q:Exit->Act->cI->Prop}{md:Region.Mode}{S:cI->Prop}
def Ww{i d:Nat}{I:Oper}{v:Value}{C:Nat}{j:Array Bool}{a:Act}{w:cI}(hi:ops[i]? = bX I)(hd:I.dst=bX d)(hs:Region.noSelect ops=fm)(hf:Region.free md ops j i=fm)(U:(Region.ready md ops j).contains i=fm)
    (R:Region.wanted I (yielded ops a.tmps)=fm) (hQ:∀c a w,Q (.panic c) (a.put I.dst v) w->Q (.panic c) a w) (hS:S w) (J:∀w,S w->(execOp a.eval I).run P w = .ok (.value v) w)
    (h:wpAnyH P md ops Q S C (j.setIfInBounds i fm) (a.put (bX d) v) w):wpAnyH P md ops Q S (C+1) j a w :=
  wpAnyH_take hi hs hf U hQ (.inl ⟨R,J⟩) hS (hd▸h)
def Wx{i d:Nat}{I:Oper}{C:Nat}{j:Array Bool}{a:Act}{w:cI}(hi:ops[i]? = bX I)(hd:I.dst=bX d)(hs:Region.noSelect ops=fm)(U:Region.free md ops j i=fm)(R:(Region.ready md ops j).contains i=fm)
    (J:Region.wanted I (yielded ops a.tmps)=bS) (hQ:∀c a w,Q (.panic c) (a.put I.dst hP) w->Q (.panic c) a w) (hS:S w)
    (h:wpAnyH P md ops Q S C (j.setIfInBounds i fm) (a.put (bX d) hP) w):wpAnyH P md ops Q S (C+1) j a w :=
  wpAnyH_take hi hs U R hQ (.inr ⟨J,rfl⟩) hS (hd▸h)
end
def read_none(O:Nat->Prop)(line:L8)(n:Nat)(ab kinds:L8)(c:Bool)(w:cI)(hn:0<n)(b3:c=bS\/¬ (n:Int)=(kinds.length:Int)+1)(dc:n<=1099511627776)(db:kinds.length<=1099511627776)
    (cl:fI c' 97 #[.string ⟨line.toArray⟩,.string ⟨#[32]⟩] (w.alloc (.cells #[.slice bI 0 0,.slice bI 0 0,.bool bS,.bool bS] 91)) fun e w1=>∃b off cap,e = .returned (.slice (bX ⟨b,off,bI⟩) n cap)/\dU (w.heap.size+1) (w.alloc (.cells #[.slice bI 0 0,.slice bI 0 0,.bool bS,.bool bS] 91)) w1/\b<w1.heap.size/\w1.cell? ⟨b,off,bI⟩=bX (strV ab))
    (b6:∀W,dU w.heap.size w W->fI c' 98 #[strV ab] W fun e W'=>e = .returned (.string ⟨kinds.toArray⟩)/\dU W.heap.size W W')
    (b8:∀W,dU w.heap.size w W->fI c' 100 #[] W fun e W'=>∃v,e = .returned v/\dU W.heap.size W W'/\∀W2,dU W'.heap.size W' W2->fI c' 99 #[v,strV ab] W2 fun e W3=>e = .returned (.bool c)/\dU W2.heap.size W2 W3) :
    fI c' 58 #[.string ⟨line.toArray⟩] w (RdEnd O (⟨[],[],bS,bS⟩,bS) w):=by
  have HN:=a' b3;have cw:=a' b6;have ca:=a' b8;clear b3 b6 b8
  go_enter hW,hR
  have cn:dU w.heap.size w (w.alloc (.cells #[.slice bI 0 0,.slice bI 0 0,.bool bS,.bool bS] 91)):=Below.alloc (Below.refl _ _) (gf _) _
  go_wp2_with (first
    |(go_at_call 97;refine cl.mono ?_;rintro e w1 ⟨b,off,cap,rfl,U,b5,cf⟩;have bs:=cn.trans (U.mono (h' _)))
    |(go_at_call 98;refine(cw.out _ bs).mono ?_;rintro e w2 ⟨rfl,R⟩;have cm:=bs.trans (R.mono bs.size);have cd:=(R.cell (p:=⟨b,off,bI⟩) b5).trans cf))
  have a7:w2.drew.cell? ⟨b,off,bI⟩=bX (strV ab):=cd;have ao:b<w2.drew.heap.size:=bR b5 R.size;have au:dU w.heap.size w w2.drew:=cm.drew;rcases c with _|_
  · refine wp_region_held_drew (S:=fun w'=>w'.cell? ⟨b,off,bI⟩=bX (strV ab)) o' a7 (fun j=>?_);refine Ww (i:=1) (d:=17) (v:=.slice (bX ⟨b,off,bI⟩) n cap) rfl rfl o' o' o' o' (fun _ _ _ h=>h) j (fun w' ay=>?_) ?_
    · go_simp
    try simp only[Act.put,bN,cA,cB]
    refine Ww (i:=2) (d:=18) (v:=.pointer (bX ⟨b,off,bI⟩)) rfl rfl o' o' o' o' (fun _ _ _ h=>h) j (fun w' ay=>?_) ?_
    · go_simp
    try simp only[Act.put,bN,cA,cB]
    refine Ww (i:=3) (d:=19) (v:=strV ab) rfl rfl o' o' o' o' (fun _ _ _ h=>h) j (fun w' ay=>?_) ?_
    · go_simp
    try simp only[Act.put,bN,cA,cB]
    refine wpAnyH_ready (rs:=[0]) o' p' ?_;refine AllReadyH.cons rfl (fun K hK=>?_) AllReadyH.nil
    go_simp
    go_at_call 100
    refine(ca.out _ au).mono ?_;rintro e w3 ⟨vd,rfl,J,bo⟩;have az:=(J.cell (p:=⟨b,off,bI⟩) ao).trans a7;have a1:=bR ao J.size;have a6:=au.trans (J.mono au.size)
    refine hK.out _ _ az (fun j=>?_);clear hK K;try simp only[Act.put,bN,cA,cB]
    refine wpAnyH_ready (rs:=[4]) o' p' ?_;refine AllReadyH.cons rfl (fun K hK=>?_) AllReadyH.nil
    go_simp
    go_at_call 99
    refine(bo _ (Below.refl _ _)).mono ?_;rintro e w4 ⟨rfl,aj⟩;have bh:=(aj.cell (p:=⟨b,off,bI⟩) a1).trans az;have I:=a6.trans (aj.mono a6.size)
    refine hK.out _ _ bh (fun j=>?_);clear hK K;try simp only[Act.put,bN,cA,cB]
    refine Ww (i:=5) (d:=21) (v:=.bool fm) rfl rfl o' o' o' o' (fun _ _ _ h=>h) j (fun w' ay=>?_) ?_
    · go_simp
    try simp only[Act.put,bN,cA,cB]
    refine Ww (i:=6) (d:=22) (v:=.bool fm) rfl rfl o' o' o' o' (fun _ _ _ h=>h) j (fun w' ay=>?_) ?_
    · go_simp
    try simp only[Act.put,bN,cA,cB]
    refine Wx (i:=7) (d:=23) rfl rfl o' o' o' o' (fun _ _ _ h=>h) j ?_;try simp only[Act.put,bN,cA,cB]
    refine Wx (i:=8) (d:=24) rfl rfl o' o' o' o' (fun _ _ _ h=>h) j ?_;try simp only[Act.put,bN,cA,cB]
    refine Wx (i:=9) (d:=25) rfl rfl o' o' o' o' (fun _ _ _ h=>h) j ?_;try simp only[Act.put,bN,cA,cB]
    refine Wx (i:=10) (d:=26) rfl rfl o' o' o' o' (fun _ _ _ h=>h) j ?_;try simp only[Act.put,bN,cA,cB]
    refine Wx (i:=11) (d:=27) rfl rfl o' o' o' o' (fun _ _ _ h=>h) j ?_;try simp only[Act.put,bN,cA,cB]
    refine Wx (i:=12) (d:=28) rfl rfl o' o' o' o' (fun _ _ _ h=>h) j ?_;try simp only[Act.put,bN,cA,cB]
    refine Ww (i:=13) (d:=29) (v:=.bool fm) rfl rfl o' o' o' o' (fun _ _ _ h=>h) j (fun w' ay=>?_) ?_
    · go_simp
    try simp only[Act.put,bN,cA,cB]
    refine wpAnyH_done o' ?_ _
    have ae:w4.heap[w.heap.size]? = bX (.cells #[.slice bI 0 0,.slice bI 0 0,.bool bS,.bool bS] 91 (0,0)):=by
      have e1:w2.heap[w.heap.size]? = _:=(R.block _ (bR (ej _) (by have:=U.size;simpa using this))).trans (U.block _ (ej _));rw[aj.block _ (by have:=U.size;have:=R.size;have:=J.size;simp at *;omega),J.block _ (by have:=U.size;have:=R.size;simp at *;omega)];exact e1.trans (dT w _)
    obtain⟨r0,r1,r2,r3,rf⟩:=Mq ae;have be:=rf 0;have bb:=rf 1;have ba:=rf 2;have a8:=rf 3;have bz:=a' ae;clear rf ae
    go_wp2
    obtain⟨aa,C⟩:=AEL (.slice bI 0 0) (.slice bI 0 0) (.bool bS) (.bool bS) bz.out;obtain⟨w5,ax⟩:∃w5,w5=((((w4.setCell ⟨w.heap.size,0,bI⟩ (.slice bI 0 0)).setCell ⟨w.heap.size,1,bI⟩ (.slice bI 0 0)).setCell ⟨w.heap.size,2,bI⟩ (.bool bS)).setCell ⟨w.heap.size,3,bI⟩ (.bool bS)):=⟨_,rfl⟩;rw[←ax]at aa C ⊢;clear ax r0 r1 r2 r3 be bb ba a8;obtain⟨r0,r1,r2,r3,rf⟩:=Mq aa;clear rf
    (try simp only[Exit.inBlock,Exit.then])
    refine hD (v:=.tuple #[.agg #[.slice bI 0 0,.slice bI 0 0,.bool bS,.bool bS],.bool bS]) (by rw[fB rfl];go_simp) rfl ?_;refine⟨_,_,rfl,?_,kG,kG⟩;exact⟨C.os.trans I.os,C.tape.trans I.tape,C.output.trans I.output,d' I.size C.size,fun k hk _=>(C.block k (bR hk I.size) (fun c=>by have c:k=w.heap.size:=c;omega)).trans (I.block k hk)⟩
  · have c8:¬ (n:Int)=(kinds.length:Int)+1:=HN.out.resolve_left x';have c7:i64.wrap ((kinds.length:Int)+1)=(kinds.length:Int)+1:=Z1 n'
    go_region_held3 (fun w'=>w'.cell? ⟨b,off,bI⟩=bX (strV ab)) (first|exact a7|exact az|exact bh) (first
      |(go_at_call 100;refine(ca.out _ au).mono ?_;rintro e w3 ⟨vd,rfl,J,bo⟩;have az:=(J.cell (p:=⟨b,off,bI⟩) ao).trans a7;have a1:=bR ao J.size;have a6:=au.trans (J.mono au.size))
      |(go_at_call 99;refine(bo _ (Below.refl _ _)).mono ?_;rintro e w4 ⟨rfl,aj⟩;have bh:=(aj.cell (p:=⟨b,off,bI⟩) a1).trans az;have I:=a6.trans (aj.mono a6.size)))
    have ae:w4.heap[w.heap.size]? = bX (.cells #[.slice bI 0 0,.slice bI 0 0,.bool bS,.bool bS] 91 (0,0)):=by
      have e1:w2.heap[w.heap.size]? = _:=(R.block _ (bR (ej _) (by have:=U.size;simpa using this))).trans (U.block _ (ej _));rw[aj.block _ (by have:=U.size;have:=R.size;have:=J.size;simp at *;omega),J.block _ (by have:=U.size;have:=R.size;simp at *;omega)];exact e1.trans (dT w _)
    obtain⟨r0,r1,r2,r3,rf⟩:=Mq ae;have be:=rf 0;have bb:=rf 1;have ba:=rf 2;have a8:=rf 3;have bz:=a' ae;clear rf ae
    go_wp2
    obtain⟨aa,C⟩:=AEL (.slice bI 0 0) (.slice bI 0 0) (.bool bS) (.bool bS) bz.out;obtain⟨w5,ax⟩:∃w5,w5=((((w4.setCell ⟨w.heap.size,0,bI⟩ (.slice bI 0 0)).setCell ⟨w.heap.size,1,bI⟩ (.slice bI 0 0)).setCell ⟨w.heap.size,2,bI⟩ (.bool bS)).setCell ⟨w.heap.size,3,bI⟩ (.bool bS)):=⟨_,rfl⟩;rw[←ax]at aa C ⊢;clear ax r0 r1 r2 r3 be bb ba a8;obtain⟨r0,r1,r2,r3,rf⟩:=Mq aa;clear rf
    (try simp only[Exit.inBlock,Exit.then])
    refine hD (v:=.tuple #[.agg #[.slice bI 0 0,.slice bI 0 0,.bool bS,.bool bS],.bool bS]) (by rw[fB rfl];go_simp) rfl ?_;refine⟨_,_,rfl,?_,kG,kG⟩;exact⟨C.os.trans I.os,C.tape.trans I.tape,C.output.trans I.output,d' I.size C.size,fun k hk _=>(C.block k (bR hk I.size) (fun c=>by have c:k=w.heap.size:=c;omega)).trans (I.block k hk)⟩
def read_all(O:Nat->Prop)(line:L8)(n:Nat)(C:List L8)(ed:L8)(j5:C.getD 0 default=ed)(kinds:L8)(y:List Int×Bool×Bool)(w:cI)(hO:∀b,O b->b<w.heap.size)(ds:n=C.length)(hn:0<n)(hk:n=kinds.length+1)(o6:n<=1099511627776)(hy:AZ kinds 0 (C.drop 1) (e8 C.length 0) bS bS=bX y)
    (h7:fI c' 97 #[.string ⟨line.toArray⟩,.string ⟨#[32]⟩] (w.alloc (.cells #[.slice bI 0 0,.slice bI 0 0,.bool bS,.bool bS] 91)) fun e w1=>∃v,e = .returned v/\dU (w.heap.size+1) (w.alloc (.cells #[.slice bI 0 0,.slice bI 0 0,.bool bS,.bool bS] 91)) w1/\VR (fun k=>k=w.heap.size\/O k) w1 v (.sl 1 (e' AV.str C)))
    (k7:∀W,dU w.heap.size w W->fI c' 98 #[strV ed] W fun e W'=>e = .returned (.string ⟨kinds.toArray⟩)/\dU W.heap.size W W')
    (k8:∀W,dU w.heap.size w W->fI c' 100 #[] W fun e W'=>∃v,e = .returned v/\dU W.heap.size W W'/\∀W2,dU W'.heap.size W' W2->fI c' 99 #[v,strV ed] W2 fun e W3=>e = .returned (.bool fm)/\dU W2.heap.size W2 W3)
    (k6:∀(X:L8) (q:Int×Bool) (W:cI),dU w.heap.size w W->Ma X=bX q->fI c' 101 #[strV X] W fun e W'=>e = .returned (.tuple #[.int .i64 q.1,.bool q.2])/\dU W.heap.size W W')
    (k5:∀(X:L8) (q:Int×Bool) (W:cI),dU w.heap.size w W->CN X=bX q->fI c' 102 #[strV X] W fun e W'=>e = .returned (.tuple #[.int .i64 q.1,.bool q.2])/\dU W.heap.size W W')
    (k9:∀(X:L8) (q:L8×Bool) (W:cI),dU w.heap.size w W->Cg X [60]=bX q->fI c' 103 #[strV X,.string ⟨#[60]⟩] W fun e W'=>e = .returned (.tuple #[strV q.1,.bool q.2])/\dU W.heap.size W W') :
    fI c' 58 #[.string ⟨line.toArray⟩] w (RdEnd O (⟨C,y.1,y.2.1,y.2.2⟩,fm) w):=by
  have HO:=a' hO;have HL:=a' ds;have mu:=a' j5;have nn:=a' k7;have nt:=a' k8;have nm:=a' k6;have lb:=a' k5;have nw:=a' k9;have HY:=a' hy;have HK:=a' hk;clear hO ds j5 k7 k8 k6 k5 k9 hy hk;have me:dU w.heap.size w (w.alloc (.cells #[.slice bI 0 0,.slice bI 0 0,.bool bS,.bool bS] 91)):=Below.alloc (Below.refl _ _) (gf _) _;have j8:0<C.length:=HL.out▸hn
  go_enter hW,hR
  go_wp2_with (first
    |(go_at_call 97;refine h7.mono ?_;rintro e w1 ⟨v,rfl,b1,hv⟩;have HV:=a' hv;obtain⟨b,off,cap,j6,fy,k4,h6,ks⟩:=words_of hv j8;rw[←HL.out]at j6 ks;subst j6;have h4:w1.cell? ⟨b,off,bI⟩=bX (strV ed):=(h6 0 j8).trans (by rw[mu.out]);have ln:=a' h6;have o9:=a' k4;clear h6 hv k4;have e6:=me.trans (b1.mono (h' _)))
    |(go_at_call 98;refine(nn.out _ e6).mono ?_;rintro e w2 ⟨rfl,au⟩;have h9:=e6.trans (au.mono e6.size);have h3:=(au.cell (p:=⟨b,off,bI⟩) fy).trans h4))
  have fu:w2.drew.cell? ⟨b,off,bI⟩=bX (strV ed):=h3;have dw:b<w2.drew.heap.size:=bR fy au.size;have e5:dU w.heap.size w w2.drew:=h9.drew;have l4:(kinds.length:Int)+1=(n:Int):=by have:=HK.out;omega
  have ot:i64.wrap ((kinds.length:Int)+1)=(n:Int):=by rw[l4];exact Z1 n'
  have oi:i64.wrap (n:Int)=(n:Int):=Z1 n'
  go_region_held3 (fun w'=>w'.cell? ⟨b,off,bI⟩=bX (strV ed)) (first|exact fu|exact fx|exact h2) (first
    |(go_at_call 100;refine(nt.out _ e5).mono ?_;rintro e w3 ⟨vd,rfl,ao,h8⟩;have fx:=(ao.cell (p:=⟨b,off,bI⟩) dw).trans fu;have ew:=bR dw ao.size;have gb:=e5.trans (ao.mono e5.size))
    |(go_at_call 99;refine(h8 _ (Below.refl _ _)).mono ?_;rintro e w4 ⟨rfl,ax⟩;have h2:=(ax.cell (p:=⟨b,off,bI⟩) ew).trans fx;have eg:=gb.trans (ax.mono gb.size)))
  obtain⟨i0,hi,j3,j2,j1⟩:=info_parts aq;rcases fp 1 cap with l7|l7
  · go_wp2_with (refine iB _ rfl _ _ 44 rfl 2 i0 _ Uw hi j3 j2 rfl .i64 .i64 n rfl rfl (by rw[j1];omega) n' ?_)
    have a1:Mr (w4.alloc (.cells (eL #[.int .i64 0] n) 2)) w4.heap.size (e8 n 0):=by
      unfold Mr;rw[dT,ia]
    have az:(w4.alloc (.cells (eL #[.int .i64 0] n) 2)).heap.size=w4.heap.size+1:=p'
    obtain⟨w5,bs⟩:∃w5,w5=w4.alloc (.cells (eL #[.int .i64 0] n) 2):=⟨_,rfl⟩;have db:dU w.heap.size w w5:=by rw[bs];exact eg.alloc eg.size _
    rw[←bs]at a1 az ⊢
    have U:Mj (w4.heap.size+1) w4.heap.size (.slice (bX ⟨b,off,bI⟩) n cap) n (e8 n 0) bS bS (w5.alloc (.cells #[.slice (bX ⟨b,off,bI⟩) n cap,.slice (bX ⟨w4.heap.size,0,bI⟩) n n,.bool bS,.bool bS] 91)):=by
      refine⟨?_,a1.same (hA C' w5 _) id⟩;rw[←az,dT];simp
    have cw:AD C' w1 w5:=by rw[bs];exact((((IF au).trans (gu _ w2)).trans (IF ao)).trans (IF ax)).trans (hA _ w4 _)
    obtain⟨j,a7⟩:∃g,g=w4.heap.size:=⟨_,rfl⟩;have c7:w.heap.size+1<=j:=by rw[a7];have:=b1.size;have:=au.size;have:=ao.size;have:=ax.size;simp at *;omega
    have cc:b<j:=by rw[a7];have:=au.size;have:=ao.size;have:=ax.size;simp at *;omega
    rw[←a7]at U az ⊢
    have b8:w5.heap[w.heap.size]? = bX (.cells #[.slice bI 0 0,.slice bI 0 0,.bool bS,.bool bS] 91 (0,0)):=by
      have hx:w.heap.size<w1.heap.size:=by have:=b1.size;simp at this;omega
      rw[cw.block _ hx id,b1.block _ (ej _)];exact dT w _
    obtain⟨ww,bo⟩:∃ww,ww=w5.alloc (.cells #[.slice (bX ⟨b,off,bI⟩) n cap,.slice (bX ⟨j,0,bI⟩) n n,.bool bS,.bool bS] 91):=⟨_,rfl⟩;have ae:AD C' w5 ww:=by rw[bo];exact hA _ w5 _
    rw[←bo]at U ⊢;have ay:=cw.trans ae;have b6:ww.heap[w.heap.size]? = bX (.cells #[.slice bI 0 0,.slice bI 0 0,.bool bS,.bool bS] 91 (0,0)):=by rw[ae.block _ n' id,b8]
    have cd:OD ww b off C:=ln.out.same ay fy id;have e4:dU w.heap.size w ww:=db.trans ((DS ae).mono db.size);have b5:ww.heap.size=j+2:=by rw[bo];simp[az]
    have h1:w1.heap.size<=j:=by rw[a7];have:=au.size;have:=ao.size;have:=ax.size;simp at *;omega
    have e0:VR (fun q=>q=w.heap.size\/q=j\/q=j+1\/O q) ww (.slice (bX ⟨b,off,bI⟩) n cap) (.sl 1 (e' AV.str C)):=HV.out.mono (ay.mono fun _ _ c=>c.elim) fun q hq c=>by
        rcases c with c|c|c|c
        · exact .inl c
        · omega
        · omega
        · exact .inr c
    have ix:=a' b6;have hl:=a' cd;have R:=a' e4;have ir:=a' e0;have ea:=a' U;have ba:=a' c7;have fi:=a' cc;have dx:=a' b5;clear h1 b6 cd e4 e0 U c7 cc b5 bo ae ay b8 cw a7 az bs db a1 b1 au ao ax h4 h3 fu fx h2 dw ew e5 e6 h9 gb eg h8 h7;have j7:((n-1:Nat):Int)=(n:Int)-1:=n'
    rw[j7];clear j7
    go_loopw [39] (fun i ws=>∃(k:Nat) (ns:List Int) (f b':Bool),k+1<=n/\i = .int .i64 k/\ns.length=n/\Hid (AD (fun q=>q=j\/q=j+1) ww ws)/\Hid (Mj (j+1) j (.slice (bX ⟨b,off,bI⟩) n cap) n ns f b' ws)/\Hid (AZ kinds k (C.drop (k+1)) ns f b'=bX y)) (fun i _=>n-(intOf i).toNat)
    case atStart=>exact⟨0,_,bS,bS,n',rfl,by simp[HL.out],a' (ek _ _),ea,by have h:=HY.out;rw[←HL.out]at h;exact a' h⟩
    case round=>
      obtain⟨k,ns,f,b',o2,rfl,bz,aa,b0,hit⟩:=hrel
      by_cases o1:k+1<n
      · obtain⟨X,hX⟩:∃X,X=C.getD (k+1) default:=⟨_,rfl⟩
        have ke:C.drop (k+1)=X::C.drop (k+1+1):=by
          rw[hX,List.drop_eq_getElem_cons (by have:=HL.out;omega),gdE,geE (by have:=HL.out;omega)];rfl
        have ev:=hit.out;rw[ke]at ev;obtain⟨kc,h0,J⟩:=qh ev
        have qx:wr.cell? ⟨b,off+1+k,bI⟩=bX (strV X):=by
          have h:=(hl.out.same aa.out (by have:=fi.out;have:=dx.out;omega) (by have:=fi.out;omega)) (k+1) (by have:=HL.out;omega);rw[←hX]at h;rw[show off+1+k=off+(k+1) by omega];exact h
        obtain⟨c,hc⟩:∃c,c=kinds.getD k 0:=⟨_,rfl⟩;rw[←hc]at J;have HC:=a' hc;have HX:=a' hX;have oj:i64.wrap ((k:Int)+1)=(k:Int)+1:=Z1 n';have o4:(0:Int)<=(k:Int)+1:=n'
        have o3:(k:Int)+1<(n:Int):=n'
        have b2:dU w.heap.size w wr:=⟨aa.out.os.trans R.out.os,aa.out.tape.trans R.out.tape,aa.out.output.trans R.out.output,d' R.out.size aa.out.size,fun q hq=>(aa.out.block q (bR hq R.out.size) (by have:=ba.out;omega)).trans (R.out.block q hq)⟩;have l5:k<(⟨kinds.toArray⟩:ByteArray).size:=by simpa[ByteArray.size]using kc
        have o5:(⟨kinds.toArray⟩:ByteArray)[k]'l5=c:=by
          rw[hc,gdE,geE kc];rfl
        have ef:wr.drew.cell? ⟨j+1,1,bI⟩=bX (.slice (bX ⟨j,0,bI⟩) n n):=by
          have h:=(Mq b0.out.hd).2.1;rw[bz]at h;exact h
        have hh:∀(w':cI) (u:Value),w'.cell? ⟨j+1,1,bI⟩=bX (.slice (bX ⟨j,0,bI⟩) n n)->(w'.setCell ⟨j,k+1,bI⟩ u).cell? ⟨j+1,1,bI⟩=bX (.slice (bX ⟨j,0,bI⟩) n n):=fun w' u h=>by
          rw[←h];exact Gv (e7 w' ⟨j,k+1,bI⟩ (j+1) u p')
        have e9:=a' hh;have kb:=b0.out.lt;have U:Mj (j+1) j (.slice (bX ⟨b,off,bI⟩) n cap) n ns f b' wr.drew:=b0.out.same (gu C' wr) id id;have b3:=a' U;clear hc hX ke ev hit hh U;rcases J with J|J|J|J
        case' inl=>
          obtain⟨cb,q,hq,I⟩:=J;have HQ:=a' hq;have cm:=a' I;have kf:((c.toNat:Nat):Int)=110:=by rw[cb];rfl
          clear hq I cb
          go_wp2
          go_region_held3 (fun w'=>w'.cell? ⟨j+1,1,bI⟩=bX (.slice (bX ⟨j,0,bI⟩) n n)) (first|exact ef|exact a8|exact e9.out _ _ a8) (first
            |(go_at_call 101;refine(nm.out X q _ (b2.drew) HQ.out).mono ?_;rintro e w9 ⟨rfl,ad⟩;have a8:=(ad.cell (p:=⟨j+1,1,bI⟩) kb.1).trans ef;obtain⟨d9,f9⟩:=(b3.out.nu.same (IF ad) id).cell h0;have cn:=a' (b3.out.same (IF ad) id id);have cl:=a' (((gu _ wr).trans (IF ad)):AD C' wr w9)))
          obtain⟨fz,ca⟩:∃fz,fz=f:=⟨_,rfl⟩;obtain⟨qb,b9⟩:∃qb,qb=q.2:=⟨_,rfl⟩;obtain⟨ct,a6⟩:∃l,l=ns.set (k+1) q.1:=⟨_,rfl⟩;have df:ct.length=n:=by rw[a6,fA,bz]
          have hz:=cn.out.num n' (k+1) q.1;have hs:AD (fun q=>q=j\/q=j+1) wr (w9.setCell ⟨j,k+1,bI⟩ (.int .i64 q.1)):=(cl.out.mono fun _ _ c=>c.elim).trans ((CB ⟨j,k+1,bI⟩ _).mono fun _ _ c=>.inl c);have aj:=cm.out;obtain⟨wz,b4⟩:∃wz,wz=w9.setCell ⟨j,k+1,bI⟩ (.int .i64 q.1):=⟨_,rfl⟩;rw[←b4]at hz hs ⊢;rw[←a6]at hz aj;rw[←b9]at aj ⊢;rw[←ca]at hz aj;clear ca b4 a6 b9 cn cl d9 f9 a8 ad;have HZ:=a' hz;have gk:=a' hs;have gr:=a' aj
        case' inr.inl=>
          obtain⟨cb,q,hq,I⟩:=J;have HQ:=a' hq;have cm:=a' I;have kf:((c.toNat:Nat):Int)=109:=by rw[cb];rfl
          clear hq I cb
          go_wp2
          go_region_held3 (fun w'=>w'.cell? ⟨j+1,1,bI⟩=bX (.slice (bX ⟨j,0,bI⟩) n n)) (first|exact ef|exact a8|exact e9.out _ _ a8) (first
            |(go_at_call 102;refine(lb.out X q _ (b2.drew) HQ.out).mono ?_;rintro e w9 ⟨rfl,ad⟩;have a8:=(ad.cell (p:=⟨j+1,1,bI⟩) kb.1).trans ef;obtain⟨d9,f9⟩:=(b3.out.nu.same (IF ad) id).cell h0;have cn:=a' (b3.out.same (IF ad) id id);have cl:=a' (((gu _ wr).trans (IF ad)):AD C' wr w9)))
          obtain⟨fz,ca⟩:∃fz,fz=f:=⟨_,rfl⟩;obtain⟨qb,b9⟩:∃qb,qb=q.2:=⟨_,rfl⟩;obtain⟨ct,a6⟩:∃l,l=ns.set (k+1) q.1:=⟨_,rfl⟩;have df:ct.length=n:=by rw[a6,fA,bz]
          have hz:=cn.out.num n' (k+1) q.1;have hs:AD (fun q=>q=j\/q=j+1) wr (w9.setCell ⟨j,k+1,bI⟩ (.int .i64 q.1)):=(cl.out.mono fun _ _ c=>c.elim).trans ((CB ⟨j,k+1,bI⟩ _).mono fun _ _ c=>.inl c);have aj:=cm.out;obtain⟨wz,b4⟩:∃wz,wz=w9.setCell ⟨j,k+1,bI⟩ (.int .i64 q.1):=⟨_,rfl⟩;rw[←b4]at hz hs ⊢;rw[←a6]at hz aj;rw[←b9]at aj ⊢;rw[←ca]at hz aj;clear ca b4 a6 b9 cn cl d9 f9 a8 ad;have HZ:=a' hz;have gk:=a' hs;have gr:=a' aj
        case' inr.inr.inl=>
          obtain⟨cb,z,q,hf,hq,I⟩:=J;have mn:=a' hf;have HQ:=a' hq;have cm:=a' I;have kf:((c.toNat:Nat):Int)=102:=by rw[cb];rfl
          clear hq I cb hf;have kp:=(Mq b0.out.hd).2.2.2.2 2;have kn:=(Mq b0.out.hd).2.2.1
          go_wp2_with (go_at_call 103;refine(nw.out X z _ b2 mn.out).mono ?_;rintro e w8 ⟨rfl,h5⟩;have gv:=a' (b0.out.same (IF h5) id id);have ml:=(Mq gv.out.hd).2.2.1;have f82:=(Mq gv.out.hd).2.2.2.2 2)
          have ga:=gv.out.faint n' z.2;have cf:AD (fun q=>q=j\/q=j+1) wr (w8.setCell ⟨j+1,2,bI⟩ (.bool z.2)):=((IF h5).mono fun _ _ c=>c.elim).trans ((CB ⟨j+1,2,bI⟩ _).mono fun _ _ c=>.inr c);obtain⟨wf,j4⟩:∃wf,wf=w8.setCell ⟨j+1,2,bI⟩ (.bool z.2):=⟨_,rfl⟩;rw[←j4]at ga cf ⊢;have l8:dU w.heap.size w wf:=⟨cf.os.trans b2.os,cf.tape.trans b2.tape,cf.output.trans b2.output,d' b2.size cf.size,fun q hq=>(cf.block q (bR hq b2.size) (by have:=ba.out;omega)).trans (b2.block q hq)⟩;have j9:=ga.lt;have c8:Mj (j+1) j (.slice (bX ⟨b,off,bI⟩) n cap) n ns z.2 b' wf.drew:=ga.same (gu C' wf) id id
          have hj:wf.drew.cell? ⟨j+1,1,bI⟩=bX (.slice (bX ⟨j,0,bI⟩) n n):=by
            have h:=(Mq c8.hd).2.1;rw[bz]at h;exact h
          have fa:=a' c8;have nc:=a' cf;clear ga cf c8 j4 ml f82 h5 gv kp kn
          go_region_held3 (fun w'=>w'.cell? ⟨j+1,1,bI⟩=bX (.slice (bX ⟨j,0,bI⟩) n n)) (first|exact hj|exact a8|exact e9.out _ _ a8) (first
            |(go_at_call 102;refine(lb.out z.1 q _ (l8.drew) HQ.out).mono ?_;rintro e w9 ⟨rfl,ad⟩;have a8:=(ad.cell (p:=⟨j+1,1,bI⟩) j9.1).trans hj;obtain⟨d9,f9⟩:=(fa.out.nu.same (IF ad) id).cell h0;have cn:=a' (fa.out.same (IF ad) id id);have cl:=a' ((nc.out.trans (gu _ wf)).trans ((IF ad).mono fun _ _ c=>c.elim):AD (fun q=>q=j\/q=j+1) wr w9)))
          obtain⟨fz,ca⟩:∃fz,fz=z.2:=⟨_,rfl⟩;obtain⟨qb,b9⟩:∃qb,qb=q.2:=⟨_,rfl⟩;obtain⟨ct,a6⟩:∃l,l=ns.set (k+1) q.1:=⟨_,rfl⟩;have df:ct.length=n:=by rw[a6,fA,bz]
          have hz:=cn.out.num n' (k+1) q.1;have hs:AD (fun q=>q=j\/q=j+1) wr (w9.setCell ⟨j,k+1,bI⟩ (.int .i64 q.1)):=cl.out.trans ((CB ⟨j,k+1,bI⟩ _).mono fun _ _ c=>.inl c);have aj:=cm.out;obtain⟨wz,b4⟩:∃wz,wz=w9.setCell ⟨j,k+1,bI⟩ (.int .i64 q.1):=⟨_,rfl⟩;rw[←b4]at hz hs ⊢;rw[←a6]at hz aj;rw[←b9]at aj ⊢;rw[←ca]at hz aj;clear ca b4 a6 b9 cn cl d9 f9 a8 ad;have HZ:=a' hz;have gk:=a' hs;have gr:=a' aj
        case' inr.inr.inr=>
          obtain⟨k3,k2,k1,I⟩:=J
          have fs:∀d:UInt8,c≠d->(((c.toNat:Nat):Int)==((d.toNat:Nat):Int))=false:=fun d h=>by
            rw[beq_eq_false_iff_ne];intro e;exact h (UInt8.toNat_inj.1 n')
          have e1:(((c.toNat:Nat):Int)==110)=false:=fs 110 k3;have e2:(((c.toNat:Nat):Int)==109)=false:=fs 109 k2;have e3:(((c.toNat:Nat):Int)==102)=false:=fs 102 k1;clear fs;have HZ:=b0;have cm:=a' I;obtain⟨z0,z1,z2,z3,zf⟩:=Mq HZ.out.hd;have l1:=zf 3;clear zf z0 z1 z2 I ef;cases b' with
          | false=>
            go_wp2
            go_roundw
            case rel=>exact⟨k+1,ns,f,bS,n',by go_num,bz,a' (aa.out.trans ((CB ⟨j+1,3,bI⟩ _).mono fun _ _ c=>.inr c)),a' (HZ.out.wrong n' bS),cm⟩
            case measure=>simp[intOf];omega
          | true=>
            go_wp2
            go_roundw
            case rel=>exact⟨k+1,ns,f,fm,n',by go_num,bz,a' (aa.out.trans ((CB ⟨j+1,3,bI⟩ _).mono fun _ _ c=>.inr c)),a' (HZ.out.wrong n' fm),cm⟩
            case measure=>simp[intOf];omega
        all_goals
          obtain⟨z0,z1,z2,z3,zf⟩:=Mq HZ.out.hd;have l1:=zf 3;clear zf z0 z1 z2 ef;cases b' with
          | false=>
            go_wp2
            go_roundw
            case rel=>exact⟨k+1,ct,fz,!qb,n',by go_num,df,a' (aa.out.trans (gk.out.trans ((CB ⟨j+1,3,bI⟩ _).mono fun _ _ c=>.inr c))),a' (HZ.out.wrong n' (!qb)),gr⟩
            case measure=>simp[intOf];omega
          | true=>
            go_wp2
            go_roundw
            case rel=>exact⟨k+1,ct,fz,fm,n',by go_num,df,a' (aa.out.trans (gk.out.trans ((CB ⟨j+1,3,bI⟩ _).mono fun _ _ c=>.inr c))),a' (HZ.out.wrong n' fm),gr⟩
            case measure=>simp[intOf];omega
      · obtain rfl:k+1=n:=n'
        have hg:C.drop (k+1)=[]:=hG (by have:=HL.out;omega);obtain rfl:y=(ns,f,b'):=by have h:=hit.out;rw[hg,AZ]at h;exact(Option.some.inj h).symm
        clear hit hg
        have c6:wr.heap[w.heap.size]? = bX (.cells #[.slice bI 0 0,.slice bI 0 0,.bool bS,.bool bS] 91 (0,0)):=by
          rw[aa.out.block _ (by have:=dx.out;have:=ba.out;omega) (by have:=ba.out;omega),ix.out]
        obtain⟨r0,r1,r2,r3,rf⟩:=Mq c6;have ht:=rf 0;have hr:=rf 1;have hp:=rf 2;have ho:=rf 3;obtain⟨m0,m1,m2,m3,_⟩:=Mq b0.out.hd;rw[bz]at m1;have eo:=AEL (.slice (bX ⟨b,off,bI⟩) (k+1) cap) (.slice (bX ⟨j,0,bI⟩) (k+1) (k+1)) (.bool f) (.bool b') c6;have ih:=a' eo;clear rf c6 eo
        go_wp2
        obtain⟨b7,ab⟩:=ih.out;obtain⟨w6,et⟩:∃w6,w6=((((wr.setCell ⟨w.heap.size,0,bI⟩ (.slice (bX ⟨b,off,bI⟩) (k+1) cap)).setCell ⟨w.heap.size,1,bI⟩ (.slice (bX ⟨j,0,bI⟩) (k+1) (k+1))).setCell ⟨w.heap.size,2,bI⟩ (.bool f)).setCell ⟨w.heap.size,3,bI⟩ (.bool b')):=⟨_,rfl⟩;rw[←et]at b7 ab ⊢;clear et r0 r1 r2 r3 ht hr hp ho m0 m1 m2 m3;obtain⟨r0,r1,r2,r3,_⟩:=Mq b7
        (try simp only[Exit.inBlock,Exit.then])
        refine hD (v:=.tuple #[.agg #[.slice (bX ⟨b,off,bI⟩) (k+1) cap,.slice (bX ⟨j,0,bI⟩) (k+1) (k+1),.bool f,.bool b'],.bool fm]) (by rw[fB rfl];go_simp) rfl ?_;have c7:=ba.out;refine⟨_,_,rfl,⟨ab.os.trans (aa.out.os.trans R.out.os),ab.tape.trans (aa.out.tape.trans R.out.tape),ab.output.trans (aa.out.output.trans R.out.output),d' R.out.size (d' aa.out.size ab.size),fun q hq _=>?_⟩,?_,?_⟩
        · have eu:=bR hq R.out.size;rw[ab.block q (bR eu aa.out.size) (fun e=>by have e:q=w.heap.size:=e;omega),aa.out.block q eu n',R.out.block q hq]
        · exact ir.out.mono ((aa.out.mono fun q _ c=>c.elim (fun c=>.inr (.inl c)) fun c=>.inr (.inr (.inl c))).trans (ab.mono fun q _ c=>.inl c)) fun _ _ c=>.inr (.inr (.inr c))
        · have h:=AAS (S:=O) (cap:=k+1) (b0.out.nu.same ab (fun e=>by have e:j=w.heap.size:=e;omega)) n' (fun e=>by have:=HO.out _ e;have:=ba.out;omega);rw[bz]at h;exact h
  · obtain rfl:n=1:=n'
    obtain rfl:cap=1:=n'
    go_wp2_with (refine iB _ rfl _ _ 44 rfl 2 i0 _ Uw hi j3 j2 rfl .i64 .i64 1 rfl rfl (by rw[j1];omega) n' ?_)
    have a1:Mr (w4.alloc (.cells (eL #[.int .i64 0] 1) 2)) w4.heap.size (e8 1 0):=by
      unfold Mr;rw[dT,ia]
    have az:(w4.alloc (.cells (eL #[.int .i64 0] 1) 2)).heap.size=w4.heap.size+1:=p'
    obtain⟨w5,bs⟩:∃w5,w5=w4.alloc (.cells (eL #[.int .i64 0] 1) 2):=⟨_,rfl⟩;have db:dU w.heap.size w w5:=by rw[bs];exact eg.alloc eg.size _
    rw[←bs]at a1 az ⊢
    have U:Mj (w4.heap.size+1) w4.heap.size (.slice (bX ⟨b,off,bI⟩) 1 1) 1 (e8 1 0) bS bS (w5.alloc (.cells #[.slice (bX ⟨b,off,bI⟩) 1 1,.slice (bX ⟨w4.heap.size,0,bI⟩) 1 1,.bool bS,.bool bS] 91)):=by
      refine⟨?_,a1.same (hA C' w5 _) id⟩;rw[←az,dT];simp
    have cw:AD C' w1 w5:=by rw[bs];exact((((IF au).trans (gu _ w2)).trans (IF ao)).trans (IF ax)).trans (hA _ w4 _)
    obtain⟨j,a7⟩:∃g,g=w4.heap.size:=⟨_,rfl⟩;have c7:w.heap.size+1<=j:=by rw[a7];have:=b1.size;have:=au.size;have:=ao.size;have:=ax.size;simp at *;omega
    have cc:b<j:=by rw[a7];have:=au.size;have:=ao.size;have:=ax.size;simp at *;omega
    rw[←a7]at U az ⊢
    have b8:w5.heap[w.heap.size]? = bX (.cells #[.slice bI 0 0,.slice bI 0 0,.bool bS,.bool bS] 91 (0,0)):=by
      have hx:w.heap.size<w1.heap.size:=by have:=b1.size;simp at this;omega
      rw[cw.block _ hx id,b1.block _ (ej _)];exact dT w _
    obtain⟨ww,bo⟩:∃ww,ww=w5.alloc (.cells #[.slice (bX ⟨b,off,bI⟩) 1 1,.slice (bX ⟨j,0,bI⟩) 1 1,.bool bS,.bool bS] 91):=⟨_,rfl⟩;have ae:AD C' w5 ww:=by rw[bo];exact hA _ w5 _
    rw[←bo]at U ⊢;have ay:=cw.trans ae;have b6:ww.heap[w.heap.size]? = bX (.cells #[.slice bI 0 0,.slice bI 0 0,.bool bS,.bool bS] 91 (0,0)):=by rw[ae.block _ n' id,b8]
    have cd:OD ww b off C:=ln.out.same ay fy id;have e4:dU w.heap.size w ww:=db.trans ((DS ae).mono db.size);have b5:ww.heap.size=j+2:=by rw[bo];simp[az]
    have h1:w1.heap.size<=j:=by rw[a7];have:=au.size;have:=ao.size;have:=ax.size;simp at *;omega
    have e0:VR (fun q=>q=w.heap.size\/q=j\/q=j+1\/O q) ww (.slice (bX ⟨b,off,bI⟩) 1 1) (.sl 1 (e' AV.str C)):=HV.out.mono (ay.mono fun _ _ c=>c.elim) fun q hq c=>by
        rcases c with c|c|c|c
        · exact .inl c
        · omega
        · omega
        · exact .inr c
    have ix:=a' b6;have hl:=a' cd;have R:=a' e4;have ir:=a' e0;have ea:=a' U;have ba:=a' c7;have fi:=a' cc;have dx:=a' b5;clear h1 b6 cd e4 e0 U c7 cc b5 bo ae ay b8 cw a7 az bs db a1 b1 au ao ax h4 h3 fu fx h2 dw ew e5 e6 h9 gb eg h8 h7;have ds:C.length=1:=HL.out.symm
    obtain rfl:y=(e8 1 0,bS,bS):=by
      have h:=HY.out;rw[hG n',ds,AZ]at h;exact(Option.some.inj h).symm
    go_loopw [39] (fun i ws=>i = .int .i64 0/\ws=ww) (fun i _=>0)
    case atStart=>exact⟨rfl,rfl⟩
    case round=>
      obtain⟨rfl,rfl⟩:=hrel
      have c6:wr.heap[w.heap.size]? = bX (.cells #[.slice bI 0 0,.slice bI 0 0,.bool bS,.bool bS] 91 (0,0)):=by
        rw[(ek (fun q=>q=j\/q=j+1) wr).block _ (by have:=dx.out;have:=ba.out;omega) (by have:=ba.out;omega),ix.out]
      obtain⟨r0,r1,r2,r3,rf⟩:=Mq c6;have ht:=rf 0;have hr:=rf 1;have hp:=rf 2;have ho:=rf 3;obtain⟨m0,m1,m2,m3,_⟩:=Mq ea.out.hd;have eo:=AEL (.slice (bX ⟨b,off,bI⟩) 1 1) (.slice (bX ⟨j,0,bI⟩) 1 1) (.bool bS) (.bool bS) c6;have ih:=a' eo;clear rf c6 eo
      go_wp2
      obtain⟨b7,ab⟩:=ih.out;obtain⟨w6,et⟩:∃w6,w6=((((wr.setCell ⟨w.heap.size,0,bI⟩ (.slice (bX ⟨b,off,bI⟩) 1 1)).setCell ⟨w.heap.size,1,bI⟩ (.slice (bX ⟨j,0,bI⟩) 1 1)).setCell ⟨w.heap.size,2,bI⟩ (.bool bS)).setCell ⟨w.heap.size,3,bI⟩ (.bool bS)):=⟨_,rfl⟩;rw[←et]at b7 ab ⊢;clear et r0 r1 r2 r3 ht hr hp ho m0 m1 m2 m3;obtain⟨r0,r1,r2,r3,_⟩:=Mq b7
      (try simp only[Exit.inBlock,Exit.then])
      refine hD (v:=.tuple #[.agg #[.slice (bX ⟨b,off,bI⟩) 1 1,.slice (bX ⟨j,0,bI⟩) 1 1,.bool bS,.bool bS],.bool fm]) (by rw[fB rfl];go_simp) rfl ?_;have c7:=ba.out;refine⟨_,_,rfl,⟨ab.os.trans ((ek (fun q=>q=j\/q=j+1) wr).os.trans R.out.os),ab.tape.trans ((ek (fun q=>q=j\/q=j+1) wr).tape.trans R.out.tape),ab.output.trans ((ek (fun q=>q=j\/q=j+1) wr).output.trans R.out.output),d' R.out.size (d' (ek (fun q=>q=j\/q=j+1) wr).size ab.size),fun q hq _=>?_⟩,?_,?_⟩
      · have eu:=bR hq R.out.size;rw[ab.block q (bR eu (ek (fun q=>q=j\/q=j+1) wr).size) (fun e=>by have e:q=w.heap.size:=e;omega),(ek (fun q=>q=j\/q=j+1) wr).block q eu n',R.out.block q hq]
      · exact ir.out.mono (ab.mono fun q _ c=>.inl c) fun _ _ c=>.inr (.inr (.inr c))
      · have h:=AAS (S:=O) (cap:=1) (ea.out.nu.same ab (fun e=>by have e:j=w.heap.size:=e;omega)) p' (fun e=>by have:=HO.out _ e;have:=ba.out;omega);exact h
end Go.Proofs.YtegmpdmpgmpiaaaGreatDoor.rdc
