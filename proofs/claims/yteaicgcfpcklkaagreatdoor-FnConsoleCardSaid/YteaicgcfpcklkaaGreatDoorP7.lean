/- Lemmas and walks, several texts in one. No condition. -/
import Derived.Test.YteaicgcfpcklkaaGreatDoorP3
import Derived.WalkKit
import Derived.Lib.Hide
import Derived.Deep.AppendLies
import Derived.Laws.AppendOwn
import Derived.Laws.IdiomStrings
import Derived.Deep.OwnRows
import Derived.Deep.RegionHeld3
import Derived.Test.YteaicgcfpcklkaaGreatDoorRows
import Derived.Deep.QuietTactic
import Derived.BigQuiet
import Derived.Laws.ResultCell
set_option linter.unusedSimpArgs false
set_option linter.unusedVariables false
set_option maxRecDepth 100000
set_option maxHeartbeats 8000000
open Go.IntKind (i64 u64)
namespace Go.Proofs.YteaicgcfpcklkaaGreatDoor
open Go Go.RowKit
theorem PW{S:Nat->Prop}{w:World}{g:Gh}{ob:CI}{k:Nat}{v:Value}{a:AV}(hf:HJ a=false)(h:vW S w g ob k v a):VR S w v a:=by
 cases a<;>first|exact h|(simp[HJ] at hf)
theorem NA{P:Program}{f:FuncId}{C:Ak}{fu:Func}{c:Code}(hC:AQ P f C)(hf:P.funcs[f]? = some fu)(hb:fu.body=some c)(hn:(fu.name == "runtime.NumGoroutine")=false)
  {args:List AV} {vargs:Array Value} {w:World} (hsz:vargs.size=args.length) (hsh:EO C.modes args=true) (hbor:args.all (fun a=>!Fk a)=true) (hv:∀ j,j<args.length->VR (fun _=>False) w (vargs.getD j undef) (args.getD j .any)) (hgt:GT (fun _=>False) w) {r:AV} {outs:List AV}
  (hF:C.F args=⟨true,r,outs⟩):Calls P f vargs w fun e w'=>∃ v,e = .returned v∧AR (fun _=>False) w w'∧VR (fun _=>False) w' v (Ny r):=by
 have hnofm:∀ j,Fk (args.getD j .any)=false:=by
  intro j;simp only[List.all_eq_true,Bool.not_eq_true'] at hbor;rw[gdE];cases hj:args[j]? with
  | none=>rfl
  | some a=>exact hbor a (List.mem_of_getElem? hj)
 have hob:∀ k,AK k (BI 0 args)=none:=by
  intro k;cases hg:AK k (BI 0 args) with
  | none=>rfl
  | some hm=>
   obtain⟨j,_,hf⟩:=LV hg;have:=hnofm j;revert hf this;generalize args.getD j .any=x;intro hf this;cases x<;>simp[Gk,Fk] at hf this
 have hno:∀ k,¬ Ih (BI 0 args) k:=fun k ⟨hm,hg⟩=>by rw[hob k] at hg;cases hg
 have hfr:FR (fun _=>False) ⟨fun _=>0,fun _=>0⟩ w vargs (List.range args.length) [] (LZ args):=by
  refine⟨fun k hm hg=>(hno k ⟨hm,hg⟩).elim,fun k _ hk=>(hno k hk.1).elim,fun k hk=>(hno k hk.1).elim,fun b hb=>hb.elim,by simp[LZ,It],rfl,fun j hj=>?_,fun j hj=>by simp at hj,fun t ht=>?_,hgt.mono (AR.refl _ _) fun b _ hb=>?_⟩
  ·have hj':j<args.length:=by simpa using hj
   have e1:(List.range args.length).getD j 0=j:=by rw[gdE,List.getElem?_range hj'];rfl
   rw[e1];simp only[LZ];rw[Jv _ 0 j hj',Nat.zero_add]
   have e2:Zs j (args.getD j .any)=args.getD j .any:=by
    have:=hnofm j;revert this;generalize args.getD j .any=x;intro this;cases x<;>first|rfl|(simp[Fk] at this)
   rw[e2];refine ((hv j hj').mono (AR.refl _ _) fun b _ hb=>?_).toSR;rcases hb with hb|⟨k,hk,_⟩
   ·exact hb
   ·exact hno k hk.1
  ·rcases ht with ht|ht
   ·have:=List.mem_range.1 ht;omega
   ·simp at ht
  ·rcases hb with hb|⟨k,hk,_⟩
   ·exact hb
   ·exact hno k hk.1
 have h:=(hC.2 _ _ w args vargs hsh hsz hfr (by rw[hF])).2;rw[hF] at h;unfold CZ at h;rw[Kl hf hb hn] at h;refine Calls.mono h fun e w' he=>?_
 obtain⟨v,g,ob,κ,rfl,B⟩:=he;have hsame:AR (fun _=>False) w w':=B.same.mono fun b _ ⟨k,hk,_⟩=>(hno k hk.1).elim
 have hval:=(aZ B).val;refine⟨v,rfl,hsame,?_⟩;revert hval;generalize frzRs_isNo:(Ny r)=q;have hno:∀ i,¬ Ht q i:=fun i hi=>Ng (frzRs_isNo▸hi)
 generalize (GE _ ob)=ob';intro hval;have sub:∀ {u:Value} {a:AV},VR (AW (fun _=>False) g ob') w' u a->VR (fun _=>False) w' u a:=fun h=>h.mono (AR.refl _ _) fun _ _ c=>c.elim
 cases q
 case tup cs=>
  obtain⟨vs,rfl,hn,hall⟩:=hval;refine .tup hn fun j hj=>sub (PW ?_ (hall j hj))
  cases hfj:HJ (cs.getD j .any) with
  | false=>rfl
  | true=>exact (hno (j+1) ⟨j,rfl,hj,hfj⟩).elim
 all_goals
  refine sub (PW (g:=g) (ob:=ob') (k:=κ 0) ?_ hval);first|rfl|exact (hno 0 ⟨rfl,rfl⟩).elim
theorem FM{w W:World}(h:Below w.heap.size w W):AR (fun _=>False) w W:=⟨h.os,h.tape,h.output,h.size,fun b hb _=>h.block b hb⟩
theorem CW{w w':World}(h:AR (fun _=>False) w w'):Below w.heap.size w w':=⟨h.os,h.tape,h.output,h.size,fun k hk=>h.block k hk fun c=>c⟩
theorem kS{O:Nat->Prop}{P:Program}{f:FuncId}{C:Ak}{fu:Func}{c:Code}(hC:AQ P f C)(hf:P.funcs[f]? = some fu)(hb:fu.body=some c)(hn:(fu.name == "runtime.NumGoroutine")=false)
  {args:List AV} {vargs:Array Value} {w:World} (hsz:vargs.size=args.length) (hsh:EO C.modes args=true) (hbor:args.all (fun a=>!Fk a)=true) (hv:∀ j,j<args.length->VR O w (vargs.getD j undef) (args.getD j .any)) (hO:∀ b,O b->b<w.heap.size) (hgt:GT O w) {r:AV} {outs:List AV}
  (hF:C.F args=⟨true,r,outs⟩):Calls P f vargs w fun e w'=>∃ v,e = .returned v∧AR (fun _=>False) w w'∧VR O w' v (Ny r):=by
 have hnofm:∀ j,Fk (args.getD j .any)=false:=by
  intro j;simp only[List.all_eq_true,Bool.not_eq_true'] at hbor;rw[gdE];cases hj:args[j]? with
  | none=>rfl
  | some a=>exact hbor a (List.mem_of_getElem? hj)
 have hob:∀ k,AK k (BI 0 args)=none:=by
  intro k;cases hg:AK k (BI 0 args) with
  | none=>rfl
  | some hm=>
   obtain⟨j,_,hf⟩:=LV hg;have:=hnofm j;revert hf this;generalize args.getD j .any=x;intro hf this;cases x<;>simp[Gk,Fk] at hf this
 have hno:∀ k,¬ Ih (BI 0 args) k:=fun k ⟨hm,hg⟩=>by rw[hob k] at hg;cases hg
 have hfr:FR O ⟨fun _=>0,fun _=>0⟩ w vargs (List.range args.length) [] (LZ args):=by
  refine⟨fun k hm hg=>(hno k ⟨hm,hg⟩).elim,fun k _ hk=>(hno k hk.1).elim,fun k hk=>(hno k hk.1).elim,hO,by simp[LZ,It],rfl,fun j hj=>?_,fun j hj=>by simp at hj,fun t ht=>?_,hgt.mono (AR.refl _ _) fun b _ hb=>?_⟩
  ·have hj':j<args.length:=by simpa using hj
   have e1:(List.range args.length).getD j 0=j:=by rw[gdE,List.getElem?_range hj'];rfl
   rw[e1];simp only[LZ];rw[Jv _ 0 j hj',Nat.zero_add]
   have e2:Zs j (args.getD j .any)=args.getD j .any:=by
    have:=hnofm j;revert this;generalize args.getD j .any=x;intro this;cases x<;>first|rfl|(simp[Fk] at this)
   rw[e2];refine ((hv j hj').mono (AR.refl _ _) fun b _ hb=>?_).toSR;rcases hb with hb|⟨k,hk,_⟩
   ·exact hb
   ·exact (hno k hk.1).elim
  ·rcases ht with ht|ht
   ·have:=List.mem_range.1 ht;omega
   ·simp at ht
  ·rcases hb with hb|⟨k,hk,_⟩
   ·exact hb
   ·exact (hno k hk.1).elim
 have h:=(hC.2 _ _ w args vargs hsh hsz hfr (by rw[hF])).2;rw[hF] at h;unfold CZ at h;rw[Kl hf hb hn] at h;refine Calls.mono h fun e w' he=>?_
 obtain⟨v,g,ob,κ,rfl,B⟩:=he;have hsame:AR (fun _=>False) w w':=B.same.mono fun b _ ⟨k,hk,_⟩=>(hno k hk.1).elim
 have hval:=(aZ B).val;refine⟨v,rfl,hsame,?_⟩;revert hval;generalize frzRs_isNo:(Ny r)=q;have hno:∀ i,¬ Ht q i:=fun i hi=>Ng (frzRs_isNo▸hi)
 generalize (GE _ ob)=ob';intro hval;have sub:∀ {u:Value} {a:AV},VR (AW O g ob') w' u a->VR O w' u a:=fun h=>h.mono (AR.refl _ _) fun _ _ c=>.inl c
 cases q
 case tup cs=>
  obtain⟨vs,rfl,hn,hall⟩:=hval;refine .tup hn fun j hj=>sub (PW ?_ (hall j hj))
  cases hfj:HJ (cs.getD j .any) with
  | false=>rfl
  | true=>exact (hno (j+1) ⟨j,rfl,hj,hfj⟩).elim
 all_goals
  refine sub (PW (g:=g) (ob:=ob') (k:=κ 0) ?_ hval);first|rfl|exact (hno 0 ⟨rfl,rfl⟩).elim
end Go.Proofs.YteaicgcfpcklkaaGreatDoor
namespace Go.Proofs.YteaicgcfpcklkaaGreatDoor.plot
open Go Go.RowKit Go.Proofs.YteaicgcfpcklkaaGreatDoor
def strV(l:List UInt8):Value:=.string ⟨l.toArray⟩
def rowV(l:List (List UInt8)):List Value:=l.map strV
def RowAt(N:Nat)(w:World)(v:Value)(l:List (List UInt8)):Prop:=w.ownsRow N 9 1 v l.length (rowV l)
theorem QS{w:World}{N:Nat}{e:TypeId}{sz n:Nat}{v:Value}{xs:List Value}(h:w.ownsRow N e sz v n xs){b:Nat}(hb:v.ownBlock=some b):N<=b∧b<w.heap.size:=by
 rcases h.2 with⟨rfl,_⟩|⟨g,cap,cur,rfl,h1,h2,_⟩
 ·cases hb
 ·obtain rfl:g=b:=by simpa[Value.ownBlock] using hb
  refine⟨h1,?_⟩;rcases Nat.lt_or_ge g w.heap.size with h' | h'
  ·exact h'
  ·rw[Array.getElem?_eq_none h'] at h2;cases h2
theorem NO{K:Nat->Prop}{w w':World}{N:Nat}{e:TypeId}{sz n:Nat}{v:Value}{xs:List Value}(h:w.ownsRow N e sz v n xs)(hs:AR K w w')(hk:∀ b,v.ownBlock=some b->¬ K b):w'.ownsRow N e sz v n xs:=by
 refine⟨h.1,?_⟩;rcases h.2 with h1|⟨g,cap,cur,rfl,h1,h2,h3⟩
 ·exact .inl h1
 ·refine .inr ⟨g,cap,cur,rfl,h1,?_,h3⟩;have hb:(Value.slice (some ⟨g,0,none⟩) n cap).ownBlock=some g:=rfl;rw[hs.block g (QS (N:=N) h hb).2 (hk g hb),h2]
theorem Pm{w:World}{N:Nat}{e:TypeId}{sz n:Nat}{v:Value}{xs:List Value}(h:w.ownsRow N e sz v n xs){b:Nat}(hb:v.ownBlock=some b):∃ cur fr,w.heap[b]? = some (.cells cur e fr):=by
 rcases h.2 with⟨rfl,_⟩|⟨g,cap,cur,rfl,h1,h2,_⟩
 ·cases hb
 ·obtain rfl:g=b:=by simpa[Value.ownBlock] using hb
  exact⟨_,_,h2⟩
theorem EU{w:World}(a:Addr)(v:Value):AR (fun b=>b=a.block) w (w.setCell a v):=⟨rfl,rfl,rfl,by simp[World.setCell],fun b _ hn=>Go.heap_setCell_other w a b v hn⟩
def kh(c:UInt8):Value:=.int .u8 (c.toNat:Int)
def Kc(w:World)(g:Nat)(l:List UInt8):Prop:=∃ cur fr,w.heap[g]? = some (.cells cur 5 fr)∧(∀ j,j<l.length->cur[j]? = some (kh (l.getD j 0)))∧l.length<=fr.1
theorem Kc.lt{w:World}{g:Nat}{l:List UInt8}(h:Kc w g l):g<w.heap.size:=by
 obtain⟨cur,fr,h1,_⟩:=h;rcases Nat.lt_or_ge g w.heap.size with h' | h'
 ·exact h'
 ·rw[Array.getElem?_eq_none h'] at h1;cases h1
theorem Kc.cell{w:World}{g:Nat}{l:List UInt8}(h:Kc w g l){j:Nat}(hj:j<l.length):w.cell? ⟨g,j,none⟩=some (kh (l.getD j 0))∧w.frozen? ⟨g,j,none⟩=false:=by
 obtain⟨cur,⟨lo,hi⟩,h1,h2,h3⟩:=h;have h3:l.length<=lo:=h3;refine⟨by rw[cell_of_row w g j cur _ _ h1,h2 j hj],?_⟩;unfold World.frozen?;rw[h1];have:¬ lo<=j:=by omega
 simp[this]
theorem Kc.same{K:Nat->Prop}{w w':World}{g:Nat}{l:List UInt8}(h:Kc w g l)(hs:AR K w w')(hk:¬ K g):Kc w' g l:=by
 have hl:=h.lt;obtain⟨cur,fr,h1,h2⟩:=h;exact⟨cur,fr,by rw[hs.block g hl hk,h1],h2⟩
theorem bQ(w:World)(g j:Nat)(cur:Array Value)(e:TypeId)(fr:Nat×Nat)(u:Value)(h:w.heap[g]? = some (.cells cur e fr)):(w.setCell ⟨g,j,none⟩ u).heap[g]? = some (.cells (cur.setIfInBounds j u) e fr):=by
 unfold World.setCell;simp only[Array.getElem?_modify,if_true,h,Option.map_some];rfl
theorem Kc.set{w:World}{g:Nat}{l:List UInt8}(h:Kc w g l){j:Nat}(hj:j<l.length)(c:UInt8):Kc (w.setCell ⟨g,j,none⟩ (kh c)) g (l.set j c):=by
 obtain⟨cur,fr,h1,h2,h3⟩:=h;refine⟨_,fr,bQ w g j cur _ fr _ h1,fun i hi=>?_,by simpa using h3⟩;have hi:i<l.length:=by simpa using hi
 have hs:j<cur.size:=by
  rcases Nat.lt_or_ge j cur.size with c1|c1
  ·exact c1
  ·have:=h2 j hj;rw[Array.getElem?_eq_none c1] at this;cases this
 rw[Array.getElem?_setIfInBounds]
 by_cases e:j=i
 ·subst e;rw[if_pos rfl,if_pos hs];simp[gdE,hj]
 ·rw[if_neg e,h2 i hi];simp[gdE,List.getElem?_set_ne e]
def VA(N:Nat)(w:World)(v:Value)(l:List UInt8):Prop:=∃ g c,v = .slice (some ⟨g,0,none⟩) l.length c∧N<=g∧Kc w g l
theorem VA.block{N:Nat}{w:World}{v:Value}{l:List UInt8}(h:VA N w v l):∃ b cur fr,v.ownBlock=some b∧N<=b∧b<w.heap.size∧w.heap[b]? = some (.cells cur 5 fr):=by
 obtain⟨g,c,rfl,h1,h2⟩:=h;have hl:=h2.lt;obtain⟨cur,fr,h3,_⟩:=h2;exact⟨g,cur,fr,rfl,h1,hl,h3⟩
theorem VA.same{K:Nat->Prop}{N:Nat}{w w':World}{v:Value}{l:List UInt8}(h:VA N w v l)(hs:AR K w w')(hk:∀ b,v.ownBlock=some b->¬ K b):VA N w' v l:=by
 obtain⟨g,c,rfl,h1,h2⟩:=h;exact⟨g,c,rfl,h1,h2.same hs (hk g rfl)⟩
structure Lc(N:Nat)(w:World)(vo:Value)(vs:List Value)(G:List (List UInt8)):Prop where
 ow:w.ownsRow N 22 1 vo G.length vs
 row:∀ i,i<G.length->VA N w (vs.getD i undef) (G.getD i [])
 dis:∀ i j,i<G.length->j<G.length->i≠j->∀ b,(vs.getD i undef).ownBlock=some b->(vs.getD j undef).ownBlock≠some b
theorem Lc.len{N:Nat}{w:World}{vo:Value}{vs:List Value}{G:List (List UInt8)}(h:Lc N w vo vs G):vs.length=G.length:=by
 have:=h.ow.1;omega
theorem Lc.same{N:Nat}{K:Nat->Prop}{w w':World}{vo:Value}{vs:List Value}{G:List (List UInt8)}(h:Lc N w vo vs G)(hs:AR K w w')(hk:∀ b,N<=b->K b->∃ cur fr e,w.heap[b]? = some (.cells cur e fr)∧e≠5∧e≠22):Lc N w' vo vs G:=by
 refine⟨NO h.ow hs fun b hb c=>?_,fun i hi=>(h.row i hi).same hs fun b hb c=>?_,h.dis⟩
 ·obtain⟨cur,fr,e⟩:=Pm h.ow hb;obtain⟨cur',fr',e',h1,h2,h3⟩:=hk b (QS h.ow hb).1 c;rw[e] at h1;injection h1 with h1
  injection h1 with _ h1 _
  exact h3 h1.symm
 ·obtain⟨b',cur,fr,h0,h1,_,h2⟩:=(h.row i hi).block;rw[hb] at h0;cases h0
  obtain⟨cur',fr',e',h3,h4,h5⟩:=hk b h1 c;rw[h2] at h3;injection h3 with h3
  injection h3 with _ h3 _
  exact h4 h3.symm
theorem Lc.still{N:Nat}{w w':World}{vo:Value}{vs:List Value}{G:List (List UInt8)}(h:Lc N w vo vs G)(hs:AR (fun _=>False) w w'):Lc N w' vo vs G:=h.same hs fun b _ c=>c.elim
theorem wH{α:Type}(l:List α)(k i:Nat)(x d:α)(hk:k<l.length):(l.set k x).getD i d=if i=k then x else l.getD i d:=by
 rw[gdE,gdE,List.getElem?_set]
 by_cases h:k=i
 ·subst h;simp[hk]
 ·rw[if_neg h,if_neg (fun e=>h e.symm)]
theorem Lc.put{N:Nat}{w:World}{vo:Value}{vs:List Value}{G:List (List UInt8)}{k j gr cr:Nat}(h:Lc N w vo vs G)(hk:k<G.length)(hv:vs.getD k undef = .slice (some ⟨gr,0,none⟩) (G.getD k []).length cr)(hj:j<(G.getD k []).length)(c:UInt8):
  Lc N (w.setCell ⟨gr,j,none⟩ (kh c)) vo vs (G.set k ((G.getD k []).set j c)):=by
 have hs:=EU (w:=w) ⟨gr,j,none⟩ (kh c);have hb:(vs.getD k undef).ownBlock=some gr:=by rw[hv];rfl
 have hB:Kc w gr (G.getD k []):=by
  obtain⟨g,c',e,_,h2⟩:=h.row k hk;rw[hv] at e;injection e with e _ _
  injection e with e
  injection e with e _ _
  rw[e];exact h2
 have hN:N<=gr:=by
  obtain⟨b,_,_,e,h1,_⟩:=(h.row k hk).block;rw[hb] at e;cases e;exact h1
 refine⟨?_,fun i hi=>?_,fun i i' hi hi'=>h.dis i i' (by simpa using hi) (by simpa using hi')⟩
 ·rw[List.length_set];refine NO h.ow hs fun b hb2 e=>?_
  have e:b=gr:=e;obtain⟨cur,fr,h1⟩:=Pm h.ow hb2;obtain⟨cur',fr',h2,_⟩:=hB;rw[e,h2] at h1;injection h1 with h1
  injection h1 with _ h1 _
  exact absurd h1 (by decide)
 ·have hi:i<G.length:=by simpa using hi
  rw[wH _ _ _ _ _ hk]
  by_cases e:i=k
  ·subst e;rw[if_pos rfl,hv];exact⟨gr,cr,by simp,hN,hB.set hj c⟩
  ·rw[if_neg e];refine (h.row i hi).same hs fun b hb2 e2=>?_
   have e2:b=gr:=e2;subst e2;exact h.dis k i hk hi (fun c=>e c.symm) _ hb hb2
end Go.Proofs.YteaicgcfpcklkaaGreatDoor.plot
namespace Go.Proofs.YteaicgcfpcklkaaGreatDoor.plot
open Go Go.RowKit Go.Proofs.YteaicgcfpcklkaaGreatDoor
section
variable {P:Program}
end
end Go.Proofs.YteaicgcfpcklkaaGreatDoor.plot
namespace Go.Proofs.YteaicgcfpcklkaaGreatDoor.rdc
open Go Go.RowKit Go.Proofs.YteaicgcfpcklkaaGreatDoor Go.Proofs.YteaicgcfpcklkaaGreatDoor.plot
def Nq(W:World)(b off:Nat)(l:List (List UInt8)):Prop:=∀ k,k<l.length->W.cell? ⟨b,off+k,none⟩=some (strV (l.getD k default))
theorem words_of{S:Nat->Prop}{w:World}{v:Value}{l:List (List UInt8)}(h:VR S w v (.sl 1 (List.map AV.str l)))(h0:0<l.length):
    ∃ b off cap,v = .slice (some ⟨b,off,none⟩) l.length cap∧b<w.heap.size∧¬ S b∧Nq w b off l∧l.length<=cap:=by
  cases h with
  | @sl a n cap sz els b off rd hn hcap hsz ha hc hw hr=>
    have hl:(List.map AV.str l).length=l.length:=by simp
    obtain⟨e,hS⟩:=ha (by omega);have hb:=World.block_lt_of_cell? w ⟨b,off+(0*1+0),none⟩ (hw 0 0 (by omega) (by omega));refine⟨b,off,cap,by rw[hn,hl,e],hb,hS,fun k hk=>?_,by rw[← hl,← hn];exact hcap⟩;have h1:=hw k 0 (by omega) (by omega);have h2:=hr k 0 (by omega) (by omega);have hget:(List.map AV.str l).getD k .any = .str (l.getD k default):=by simp[gdE,hk]
    rw[hget] at h2;rw[Nat.mul_one,Nat.add_zero] at h1;rw[h1];have h2:VR S w (rd k 0) (.str (l.getD k default)):=h2;generalize rd k 0=u at h2;cases h2;rfl
theorem Nq.same{K:Nat->Prop}{W W':World}{b off:Nat}{l:List (List UInt8)}(h:Nq W b off l)(hs:AR K W W')(hb:b<W.heap.size)(hk:¬ K b):Nq W' b off l:=fun k hkl=>by
  rw[← h k hkl];exact Ek (hs.block b hb hk)
def wy(l:List Int):List Value:=l.map (Value.int .i64)
def Jq(w:World)(g:Nat)(l:List Int):Prop:=w.heap[g]? = some (.cells (wy l).toArray 2 (0,0))
theorem Jq.cell{w:World}{g:Nat}{l:List Int}(h:Jq w g l){j:Nat}(hj:j<l.length):w.cell? ⟨g,j,none⟩=some (.int .i64 (l.getD j 0))∧w.frozen? ⟨g,j,none⟩=false:=by
  refine⟨?_,by unfold World.frozen?;rw[h];rfl⟩;rw[cell_of_row w g j _ _ _ h];simp[wy,gdE,hj]
theorem Jq.set{w:World}{g:Nat}{l:List Int}(h:Jq w g l)(j:Nat)(z:Int):Jq (w.setCell ⟨g,j,none⟩ (.int .i64 z)) g (l.set j z):=by
  unfold Jq;rw[Go.heap_setCell_same w g j _ _ _ h]
  congr 2
  unfold wy;apply Array.ext';rw[Array.toList_setIfInBounds];simp[List.map_set]
theorem Jq.same{K:Nat->Prop}{w w':World}{g:Nat}{l:List Int}(h:Jq w g l)(hs:AR K w w')(hk:¬ K g):Jq w' g l:=by
  have hl:g<w.heap.size:=by
    rcases Nat.lt_or_ge g w.heap.size with c|c
    · exact c
    · have h':w.heap[g]? = _:=h;rw[Array.getElem?_eq_none c] at h';cases h'
  unfold Jq;rw[hs.block g hl hk];exact h
theorem wx{S:Nat->Prop}{w:World}{g cap:Nat}{l:List Int}(h:Jq w g l)(hc:l.length<=cap)(hS:¬ S g):VR S w (.slice (some ⟨g,0,none⟩) l.length cap) (.sl 1 (List.map (AV.int .i64) l)):=by
  have one:∀ i,i<l.length->(List.map (AV.int .i64) l).getD i .any = .int .i64 (l.getD i 0):=fun i hi=>by
    simp[gdE,hi]
  refine .sl g 0 (fun i j=>.int .i64 (l.getD i 0)) (by simp) hc (by omega) (fun _=>⟨rfl,hS⟩) (fun i hi=>?_) (fun i j hi hj=>?_) (fun i j hi hj=>?_)
  · rw[one i (by simpa using hi)];exact⟨rfl,rfl⟩
  · obtain rfl:j=0:=by omega
    rw[Nat.zero_add,Nat.mul_one,Nat.add_zero];exact (h.cell (by simpa using hi)).1
  · obtain rfl:j=0:=by omega
    rw[one i (by simpa using hi)];exact .int
structure Jl(cb gn:Nat)(ws:Value)(cap:Nat)(ns:List Int)(f b:Bool)(w:World):Prop where
  hd:w.heap[cb]? = some (.cells #[ws,.slice (some ⟨gn,0,none⟩) ns.length cap,.bool f,.bool b] 75 (0,0))
  nu:Jq w gn ns
theorem Jp{w:World}{b:Nat}{v0 v1 v2 v3:Value}{T:TypeId}(h:w.heap[b]? = some (.cells #[v0,v1,v2,v3] T (0,0))):
    w.cell? ⟨b,0,none⟩=some v0∧w.cell? ⟨b,1,none⟩=some v1∧w.cell? ⟨b,2,none⟩=some v2∧w.cell? ⟨b,3,none⟩=some v3∧∀ j,w.frozen? ⟨b,j,none⟩=false:=by
  refine⟨?_,?_,?_,?_,fun j=>?_⟩
  · unfold World.cell?;rw[h];rfl
  · unfold World.cell?;rw[h];rfl
  · unfold World.cell?;rw[h];rfl
  · unfold World.cell?;rw[h];rfl
  · unfold World.frozen?;rw[h];rfl
theorem Jl.num{cb gn:Nat}{ws:Value}{cap:Nat}{ns:List Int}{f b:Bool}{w:World}(h:Jl cb gn ws cap ns f b w)(hne:cb≠gn)(j:Nat)(z:Int):Jl cb gn ws cap (ns.set j z) f b (w.setCell ⟨gn,j,none⟩ (.int .i64 z)) :=
  ⟨by rw[Go.heap_setCell_other w ⟨gn,j,none⟩ cb _ hne,h.hd,List.length_set],h.nu.set j z⟩
theorem Jl.wrong{cb gn:Nat}{ws:Value}{cap:Nat}{ns:List Int}{f b:Bool}{w:World}(h:Jl cb gn ws cap ns f b w)(hne:cb≠gn)(b':Bool):Jl cb gn ws cap ns f b' (w.setCell ⟨cb,3,none⟩ (.bool b')) :=
  ⟨(Go.heap_setCell_same w cb 3 _ _ _ h.hd).trans rfl,by unfold Jq;rw[Go.heap_setCell_other w ⟨cb,3,none⟩ gn _ (fun e=>hne e.symm)];exact h.nu⟩
theorem Jl.faint{cb gn:Nat}{ws:Value}{cap:Nat}{ns:List Int}{f b:Bool}{w:World}(h:Jl cb gn ws cap ns f b w)(hne:cb≠gn)(f':Bool):Jl cb gn ws cap ns f' b (w.setCell ⟨cb,2,none⟩ (.bool f')) :=
  ⟨(Go.heap_setCell_same w cb 2 _ _ _ h.hd).trans rfl,by unfold Jq;rw[Go.heap_setCell_other w ⟨cb,2,none⟩ gn _ (fun e=>hne e.symm)];exact h.nu⟩
theorem Jl.lt{cb gn:Nat}{ws:Value}{cap:Nat}{ns:List Int}{f b:Bool}{w:World}(h:Jl cb gn ws cap ns f b w):cb<w.heap.size∧gn<w.heap.size:=by
  refine⟨?_,?_⟩
  · rcases Nat.lt_or_ge cb w.heap.size with c|c
    · exact c
    · have:=h.hd;rw[Array.getElem?_eq_none c] at this;cases this
  · rcases Nat.lt_or_ge gn w.heap.size with c|c
    · exact c
    · have:w.heap[gn]? = _:=h.nu;rw[Array.getElem?_eq_none c] at this;cases this
theorem Jl.same{K:Nat->Prop}{cb gn:Nat}{ws:Value}{cap:Nat}{ns:List Int}{f b:Bool}{w w':World}(h:Jl cb gn ws cap ns f b w)(hs:AR K w w')(h1:¬ K cb)(h2:¬ K gn):Jl cb gn ws cap ns f b w' :=
  ⟨by rw[hs.block cb h.lt.1 h1,h.hd],h.nu.same hs h2⟩
theorem lZ{kinds X:List UInt8}{i:Nat}{r:List (List UInt8)}{ns:List Int}{f b:Bool}{y:List Int×Bool×Bool}(h:As kinds i (X::r) ns f b=some y):
    i<kinds.length∧i+1<ns.length ∧
      ((kinds.getD i 0=110∧∃ q,Jw X=some q∧As kinds (i+1) r (ns.set (i+1) q.1) f (b || !q.2)=some y) ∨
       (kinds.getD i 0=109∧∃ q,Ee X=some q∧As kinds (i+1) r (ns.set (i+1) q.1) f (b || !q.2)=some y) ∨
       (kinds.getD i 0=102∧∃ z q,DC X [60]=some z∧Ee z.1=some q∧As kinds (i+1) r (ns.set (i+1) q.1) z.2 (b || !q.2)=some y) ∨
       (kinds.getD i 0≠110∧kinds.getD i 0≠109∧kinds.getD i 0≠102∧As kinds (i+1) r ns f b=some y)):=by
  rw[As] at h;obtain⟨h1,h⟩:=AC h;obtain⟨h2,h⟩:=AC h;refine⟨of_decide_eq_true h1,of_decide_eq_true h2,?_⟩;generalize kinds.getD i 0=c at h;split at h
  · rename_i hc;obtain⟨q,hq,h⟩:=AB h;exact .inl ⟨by simpa using hc,q,hq,h⟩
  · rename_i hc;split at h
    · rename_i hd;obtain⟨q,hq,h⟩:=AB h;exact .inr (.inl ⟨by simpa using hd,q,hq,h⟩)
    · rename_i hd;split at h
      · rename_i he;obtain⟨z,hz,h⟩:=AB h;obtain⟨q,hq,h⟩:=AB h;exact .inr (.inr (.inl ⟨by simpa using he,z,q,hz,hq,h⟩))
      · rename_i he;exact .inr (.inr (.inr ⟨by simpa using hc,by simpa using hd,by simpa using he,h⟩))
def RdEnd(O:Nat->Prop)(r:HA×Bool)(w:World)(e:Ending)(w':World):Prop :=
  ∃ ws nu,e = .returned (.tuple #[.agg #[ws,nu,.bool r.1.fainter_,.bool r.1.wrong_],.bool r.2])∧AR (fun _=>False) w w' ∧
    VR O w' ws (.sl 1 (List.map AV.str r.1.words_))∧VR O w' nu (.sl 1 (List.map (AV.int .i64) r.1.numbers_))
theorem fK{S:Nat->Prop}{w:World}:VR S w (.slice none 0 0) (.sl 1 []) :=
  .sl 0 0 (fun _ _=>undef) rfl (Nat.le_refl _) (by omega) (fun h=>absurd h (by simp)) (fun i hi=>absurd hi (by simp)) (fun i j hi=>absurd hi (by simp)) (fun i j hi=>absurd hi (by simp))
theorem zZ:(Tryz.prog.info? 2).map (fun i=>(i.zero,i.size,i.bytes))=some (some (.int .i64 0),1,8):=by kernel_rfl
theorem iG:Tryz.prog.underlying 73=some (.slice 2):=by kernel_rfl
theorem cZ(k:Nat):madeCells #[Value.int .i64 0] k=(wy (List.replicate k 0)).toArray:=by
  apply Array.ext';unfold wy;have h1:(madeCells #[Value.int .i64 0] k).size=k:=by simp[madeCells]
  refine List.ext_getElem (by simp[h1]) fun i h2 h3=>?_
  have:i%1=0:=Nat.mod_one i;simp[madeCells,this]
theorem ABb{w:World}{b:Nat}{v0 v1 v2 v3:Value}{T:TypeId}(u0 u1 u2 u3:Value)(h:w.heap[b]? = some (.cells #[v0,v1,v2,v3] T (0,0))):
    ((((w.setCell ⟨b,0,none⟩ u0).setCell ⟨b,1,none⟩ u1).setCell ⟨b,2,none⟩ u2).setCell ⟨b,3,none⟩ u3).heap[b]? = some (.cells #[u0,u1,u2,u3] T (0,0))∧AR (fun k=>k=b) w ((((w.setCell ⟨b,0,none⟩ u0).setCell ⟨b,1,none⟩ u1).setCell ⟨b,2,none⟩ u2).setCell ⟨b,3,none⟩ u3):=by
  have h0:=Go.heap_setCell_same w b 0 _ _ u0 h;have h1:=Go.heap_setCell_same _ b 1 _ _ u1 h0;have h2:=Go.heap_setCell_same _ b 2 _ _ u2 h1;have h3:=Go.heap_setCell_same _ b 3 _ _ u3 h2;exact⟨h3.trans rfl,(((EU (w:=w) ⟨b,0,none⟩ u0).trans (EU ⟨b,1,none⟩ u1)).trans (EU ⟨b,2,none⟩ u2)).trans (EU ⟨b,3,none⟩ u3)⟩
section
variable {P:Program}{ops:Array Oper}{Q:Exit->Act->World->Prop}{md:Region.Mode}{S:World->Prop}
theorem UJ{i d:Nat}{oi:Oper}{v:Value}{fuel:Nat}{listed:Array Bool}{a:Act}{w:World}(hi:ops[i]? = some oi)(hd:oi.dst=some d)(hs:Region.noSelect ops=true)(hf:Region.free md ops listed i=true)(hr:(Region.ready md ops listed).contains i=true)
    (hw:Region.wanted oi (yielded ops a.tmps)=true) (hQ:∀ c a w,Q (.panic c) (a.put oi.dst v) w->Q (.panic c) a w) (hS:S w) (hy:∀ w,S w->(execOp a.eval oi).run P w = .ok (.value v) w)
    (h:wpAnyH P md ops Q S fuel (listed.setIfInBounds i true) (a.put (some d) v) w):wpAnyH P md ops Q S (fuel+1) listed a w :=
  wpAnyH_take hi hs hf hr hQ (.inl ⟨hw,hy⟩) hS (hd▸h)
theorem UK{i d:Nat}{oi:Oper}{fuel:Nat}{listed:Array Bool}{a:Act}{w:World}(hi:ops[i]? = some oi)(hd:oi.dst=some d)(hs:Region.noSelect ops=true)(hf:Region.free md ops listed i=true)(hr:(Region.ready md ops listed).contains i=true)
    (hw:Region.wanted oi (yielded ops a.tmps)=false) (hQ:∀ c a w,Q (.panic c) (a.put oi.dst undef) w->Q (.panic c) a w) (hS:S w)
    (h:wpAnyH P md ops Q S fuel (listed.setIfInBounds i true) (a.put (some d) undef) w):wpAnyH P md ops Q S (fuel+1) listed a w :=
  wpAnyH_take hi hs hf hr hQ (.inr ⟨hw,rfl⟩) hS (hd▸h)
end
theorem read_none(O:Nat->Prop)(line:List UInt8)(n:Nat)(ws0 kinds:List UInt8)(c:Bool)(w:World)(hn:0<n)(hno:c=false∨¬ (n:Int)=(kinds.length:Int)+1)(h63:n<=1099511627776)(hkl:kinds.length<=1099511627776)
    (hSP:Calls Tryz.prog 50 #[.string ⟨line.toArray⟩,.string ⟨#[32]⟩] (w.alloc (.cells #[.slice none 0 0,.slice none 0 0,.bool false,.bool false] 75)) fun e w1=>∃ b off cap,e = .returned (.slice (some ⟨b,off,none⟩) n cap)∧Below (w.heap.size+1) (w.alloc (.cells #[.slice none 0 0,.slice none 0 0,.bool false,.bool false] 75)) w1∧b<w1.heap.size∧w1.cell? ⟨b,off,none⟩=some (strV ws0))
    (hKF:∀ W,Below w.heap.size w W->Calls Tryz.prog 51 #[strV ws0] W fun e W'=>e = .returned (.string ⟨kinds.toArray⟩)∧Below W.heap.size W W')
    (hDW:∀ W,Below w.heap.size w W->Calls Tryz.prog 53 #[] W fun e W'=>∃ v,e = .returned v∧Below W.heap.size W W'∧∀ W2,Below W'.heap.size W' W2->Calls Tryz.prog 52 #[v,strV ws0] W2 fun e W3=>e = .returned (.bool c)∧Below W2.heap.size W2 W3) :
    Calls Tryz.prog 30 #[.string ⟨line.toArray⟩] w (RdEnd O (⟨[],[],false,false⟩,false) w):=by
  have HN:=Lib.hid hno;have HKF:=Lib.hid hKF;have HDW:=Lib.hid hDW;clear hno hKF hDW
  go_enter Tryz.func30,Tryz.ntmps30
  have hB0:Below w.heap.size w (w.alloc (.cells #[.slice none 0 0,.slice none 0 0,.bool false,.bool false] 75)):=Below.alloc (Below.refl _ _) (Nat.le_refl _) _
  go_wp2_with (first
    | (go_at_call 50;refine hSP.mono ?_;rintro e w1 ⟨b,off,cap,rfl,hb1,hbl,hc0⟩;have hB1:=hB0.trans (hb1.mono (Nat.le_succ _)))
    | (go_at_call 51;refine (HKF.out _ hB1).mono ?_;rintro e w2 ⟨rfl,hb2⟩;have hB2:=hB1.trans (hb2.mono hB1.size);have hc2:=(hb2.cell (p:=⟨b,off,none⟩) hbl).trans hc0))
  have hcd:w2.drew.cell? ⟨b,off,none⟩=some (strV ws0):=hc2;have hb2':b<w2.drew.heap.size:=Nat.lt_of_lt_of_le hbl hb2.size;have hBd:Below w.heap.size w w2.drew:=hB2.drew;rcases c with _|_
  · refine wp_region_held_drew (S:=fun w'=>w'.cell? ⟨b,off,none⟩=some (strV ws0)) (by kernel_rfl) hcd (fun hHeld=>?_);refine UJ (i:=1) (d:=17) (v:=.slice (some ⟨b,off,none⟩) n cap) rfl rfl (by kernel_rfl) (by kernel_rfl) (by kernel_rfl) (by kernel_rfl) (fun _ _ _ h=>h) hHeld (fun w' hw'=>?_) ?_
    · go_simp
    try simp only[Act.put,List.setIfInBounds_toArray,List.set_cons_zero,List.set_cons_succ]
    refine UJ (i:=2) (d:=18) (v:=.pointer (some ⟨b,off,none⟩)) rfl rfl (by kernel_rfl) (by kernel_rfl) (by kernel_rfl) (by kernel_rfl) (fun _ _ _ h=>h) hHeld (fun w' hw'=>?_) ?_
    · go_simp
    try simp only[Act.put,List.setIfInBounds_toArray,List.set_cons_zero,List.set_cons_succ]
    refine UJ (i:=3) (d:=19) (v:=strV ws0) rfl rfl (by kernel_rfl) (by kernel_rfl) (by kernel_rfl) (by kernel_rfl) (fun _ _ _ h=>h) hHeld (fun w' hw'=>?_) ?_
    · go_simp
    try simp only[Act.put,List.setIfInBounds_toArray,List.set_cons_zero,List.set_cons_succ]
    refine wpAnyH_ready (rs:=[0]) (by kernel_rfl) (by simp) ?_;refine AllReadyH.cons rfl (fun K hK=>?_) AllReadyH.nil
    go_simp
    go_at_call 53
    refine (HDW.out _ hBd).mono ?_;rintro e w3 ⟨vd,rfl,hb3,hCT⟩;have hc3:=(hb3.cell (p:=⟨b,off,none⟩) hb2').trans hcd;have hb3':=Nat.lt_of_lt_of_le hb2' hb3.size;have hB3:=hBd.trans (hb3.mono hBd.size)
    refine hK.out _ _ hc3 (fun hHeld=>?_);clear hK K;try simp only[Act.put,List.setIfInBounds_toArray,List.set_cons_zero,List.set_cons_succ]
    refine wpAnyH_ready (rs:=[4]) (by kernel_rfl) (by simp) ?_;refine AllReadyH.cons rfl (fun K hK=>?_) AllReadyH.nil
    go_simp
    go_at_call 52
    refine (hCT _ (Below.refl _ _)).mono ?_;rintro e w4 ⟨rfl,hb4⟩;have hc4:=(hb4.cell (p:=⟨b,off,none⟩) hb3').trans hc3;have hB4:=hB3.trans (hb4.mono hB3.size)
    refine hK.out _ _ hc4 (fun hHeld=>?_);clear hK K;try simp only[Act.put,List.setIfInBounds_toArray,List.set_cons_zero,List.set_cons_succ]
    refine UJ (i:=5) (d:=21) (v:=.bool true) rfl rfl (by kernel_rfl) (by kernel_rfl) (by kernel_rfl) (by kernel_rfl) (fun _ _ _ h=>h) hHeld (fun w' hw'=>?_) ?_
    · go_simp
    try simp only[Act.put,List.setIfInBounds_toArray,List.set_cons_zero,List.set_cons_succ]
    refine UJ (i:=6) (d:=22) (v:=.bool true) rfl rfl (by kernel_rfl) (by kernel_rfl) (by kernel_rfl) (by kernel_rfl) (fun _ _ _ h=>h) hHeld (fun w' hw'=>?_) ?_
    · go_simp
    try simp only[Act.put,List.setIfInBounds_toArray,List.set_cons_zero,List.set_cons_succ]
    refine UK (i:=7) (d:=23) rfl rfl (by kernel_rfl) (by kernel_rfl) (by kernel_rfl) (by kernel_rfl) (fun _ _ _ h=>h) hHeld ?_;try simp only[Act.put,List.setIfInBounds_toArray,List.set_cons_zero,List.set_cons_succ]
    refine UK (i:=8) (d:=24) rfl rfl (by kernel_rfl) (by kernel_rfl) (by kernel_rfl) (by kernel_rfl) (fun _ _ _ h=>h) hHeld ?_;try simp only[Act.put,List.setIfInBounds_toArray,List.set_cons_zero,List.set_cons_succ]
    refine UK (i:=9) (d:=25) rfl rfl (by kernel_rfl) (by kernel_rfl) (by kernel_rfl) (by kernel_rfl) (fun _ _ _ h=>h) hHeld ?_;try simp only[Act.put,List.setIfInBounds_toArray,List.set_cons_zero,List.set_cons_succ]
    refine UK (i:=10) (d:=26) rfl rfl (by kernel_rfl) (by kernel_rfl) (by kernel_rfl) (by kernel_rfl) (fun _ _ _ h=>h) hHeld ?_;try simp only[Act.put,List.setIfInBounds_toArray,List.set_cons_zero,List.set_cons_succ]
    refine UK (i:=11) (d:=27) rfl rfl (by kernel_rfl) (by kernel_rfl) (by kernel_rfl) (by kernel_rfl) (fun _ _ _ h=>h) hHeld ?_;try simp only[Act.put,List.setIfInBounds_toArray,List.set_cons_zero,List.set_cons_succ]
    refine UK (i:=12) (d:=28) rfl rfl (by kernel_rfl) (by kernel_rfl) (by kernel_rfl) (by kernel_rfl) (fun _ _ _ h=>h) hHeld ?_;try simp only[Act.put,List.setIfInBounds_toArray,List.set_cons_zero,List.set_cons_succ]
    refine UJ (i:=13) (d:=29) (v:=.bool true) rfl rfl (by kernel_rfl) (by kernel_rfl) (by kernel_rfl) (by kernel_rfl) (fun _ _ _ h=>h) hHeld (fun w' hw'=>?_) ?_
    · go_simp
    try simp only[Act.put,List.setIfInBounds_toArray,List.set_cons_zero,List.set_cons_succ]
    refine wpAnyH_done (by kernel_rfl) ?_ _
    have hrb:w4.heap[w.heap.size]? = some (.cells #[.slice none 0 0,.slice none 0 0,.bool false,.bool false] 75 (0,0)):=by
      have e1:w2.heap[w.heap.size]? = _:=(hb2.block _ (Nat.lt_of_lt_of_le (Nat.lt_succ_self _) (by have:=hb1.size;simpa using this))).trans (hb1.block _ (Nat.lt_succ_self _));rw[hb4.block _ (by have:=hb1.size;have:=hb2.size;have:=hb3.size;simp at *;omega),hb3.block _ (by have:=hb1.size;have:=hb2.size;simp at *;omega)];exact e1.trans (heap_alloc_new w _)
    obtain⟨r0,r1,r2,r3,rf⟩:=Jp hrb;have rf0:=rf 0;have rf1:=rf 1;have rf2:=rf 2;have rf3:=rf 3;have HRB:=Lib.hid hrb;clear rf hrb
    go_wp2
    obtain⟨hrb5,hs5⟩:=ABb (.slice none 0 0) (.slice none 0 0) (.bool false) (.bool false) HRB.out;obtain⟨w5,hw5⟩:∃ w5,w5=((((w4.setCell ⟨w.heap.size,0,none⟩ (.slice none 0 0)).setCell ⟨w.heap.size,1,none⟩ (.slice none 0 0)).setCell ⟨w.heap.size,2,none⟩ (.bool false)).setCell ⟨w.heap.size,3,none⟩ (.bool false)):=⟨_,rfl⟩;rw[← hw5] at hrb5 hs5 ⊢;clear hw5 r0 r1 r2 r3 rf0 rf1 rf2 rf3;obtain⟨r0,r1,r2,r3,rf⟩:=Jp hrb5;clear rf
    (try simp only[Exit.inBlock,Exit.then])
    refine bodyPost_ret (v:=.tuple #[.agg #[.slice none 0 0,.slice none 0 0,.bool false,.bool false],.bool false]) (by rw[results_cell_tmp rfl];go_simp) rfl ?_;refine⟨_,_,rfl,?_,fK,fK⟩;exact⟨hs5.os.trans hB4.os,hs5.tape.trans hB4.tape,hs5.output.trans hB4.output,Nat.le_trans hB4.size hs5.size,fun k hk _=>(hs5.block k (Nat.lt_of_lt_of_le hk hB4.size) (fun c=>by have c:k=w.heap.size:=c;omega)).trans (hB4.block k hk)⟩
  · have hne:¬ (n:Int)=(kinds.length:Int)+1:=HN.out.resolve_left (by decide);have hw1:i64.wrap ((kinds.length:Int)+1)=(kinds.length:Int)+1:=wrap_i64 (by omega) (by omega)
    go_region_held3 (fun w'=>w'.cell? ⟨b,off,none⟩=some (strV ws0)) (first|exact hcd|exact hc3|exact hc4) (first
      | (go_at_call 53;refine (HDW.out _ hBd).mono ?_;rintro e w3 ⟨vd,rfl,hb3,hCT⟩;have hc3:=(hb3.cell (p:=⟨b,off,none⟩) hb2').trans hcd;have hb3':=Nat.lt_of_lt_of_le hb2' hb3.size;have hB3:=hBd.trans (hb3.mono hBd.size))
      | (go_at_call 52;refine (hCT _ (Below.refl _ _)).mono ?_;rintro e w4 ⟨rfl,hb4⟩;have hc4:=(hb4.cell (p:=⟨b,off,none⟩) hb3').trans hc3;have hB4:=hB3.trans (hb4.mono hB3.size)))
    have hrb:w4.heap[w.heap.size]? = some (.cells #[.slice none 0 0,.slice none 0 0,.bool false,.bool false] 75 (0,0)):=by
      have e1:w2.heap[w.heap.size]? = _:=(hb2.block _ (Nat.lt_of_lt_of_le (Nat.lt_succ_self _) (by have:=hb1.size;simpa using this))).trans (hb1.block _ (Nat.lt_succ_self _));rw[hb4.block _ (by have:=hb1.size;have:=hb2.size;have:=hb3.size;simp at *;omega),hb3.block _ (by have:=hb1.size;have:=hb2.size;simp at *;omega)];exact e1.trans (heap_alloc_new w _)
    obtain⟨r0,r1,r2,r3,rf⟩:=Jp hrb;have rf0:=rf 0;have rf1:=rf 1;have rf2:=rf 2;have rf3:=rf 3;have HRB:=Lib.hid hrb;clear rf hrb
    go_wp2
    obtain⟨hrb5,hs5⟩:=ABb (.slice none 0 0) (.slice none 0 0) (.bool false) (.bool false) HRB.out;obtain⟨w5,hw5⟩:∃ w5,w5=((((w4.setCell ⟨w.heap.size,0,none⟩ (.slice none 0 0)).setCell ⟨w.heap.size,1,none⟩ (.slice none 0 0)).setCell ⟨w.heap.size,2,none⟩ (.bool false)).setCell ⟨w.heap.size,3,none⟩ (.bool false)):=⟨_,rfl⟩;rw[← hw5] at hrb5 hs5 ⊢;clear hw5 r0 r1 r2 r3 rf0 rf1 rf2 rf3;obtain⟨r0,r1,r2,r3,rf⟩:=Jp hrb5;clear rf
    (try simp only[Exit.inBlock,Exit.then])
    refine bodyPost_ret (v:=.tuple #[.agg #[.slice none 0 0,.slice none 0 0,.bool false,.bool false],.bool false]) (by rw[results_cell_tmp rfl];go_simp) rfl ?_;refine⟨_,_,rfl,?_,fK,fK⟩;exact⟨hs5.os.trans hB4.os,hs5.tape.trans hB4.tape,hs5.output.trans hB4.output,Nat.le_trans hB4.size hs5.size,fun k hk _=>(hs5.block k (Nat.lt_of_lt_of_le hk hB4.size) (fun c=>by have c:k=w.heap.size:=c;omega)).trans (hB4.block k hk)⟩
theorem read_all(O:Nat->Prop)(line:List UInt8)(n:Nat)(words:List (List UInt8))(ws0:List UInt8)(hw0:words.getD 0 default=ws0)(kinds:List UInt8)(y:List Int×Bool×Bool)(w:World)(hO:∀ b,O b->b<w.heap.size)(hlen:n=words.length)(hn:0<n)(hk:n=kinds.length+1)(h63:n<=1099511627776)(hy:As kinds 0 (words.drop 1) (List.replicate words.length 0) false false=some y)
    (hSP:Calls Tryz.prog 50 #[.string ⟨line.toArray⟩,.string ⟨#[32]⟩] (w.alloc (.cells #[.slice none 0 0,.slice none 0 0,.bool false,.bool false] 75)) fun e w1=>∃ v,e = .returned v∧Below (w.heap.size+1) (w.alloc (.cells #[.slice none 0 0,.slice none 0 0,.bool false,.bool false] 75)) w1∧VR (fun k=>k=w.heap.size∨O k) w1 v (.sl 1 (List.map AV.str words)))
    (hKF:∀ W,Below w.heap.size w W->Calls Tryz.prog 51 #[strV ws0] W fun e W'=>e = .returned (.string ⟨kinds.toArray⟩)∧Below W.heap.size W W')
    (hDW:∀ W,Below w.heap.size w W->Calls Tryz.prog 53 #[] W fun e W'=>∃ v,e = .returned v∧Below W.heap.size W W'∧∀ W2,Below W'.heap.size W' W2->Calls Tryz.prog 52 #[v,strV ws0] W2 fun e W3=>e = .returned (.bool true)∧Below W2.heap.size W2 W3)
    (hRD:∀ (X:List UInt8) (q:Int×Bool) (W:World),Below w.heap.size w W->Jw X=some q->Calls Tryz.prog 54 #[strV X] W fun e W'=>e = .returned (.tuple #[.int .i64 q.1,.bool q.2])∧Below W.heap.size W W')
    (hRM:∀ (X:List UInt8) (q:Int×Bool) (W:World),Below w.heap.size w W->Ee X=some q->Calls Tryz.prog 55 #[strV X] W fun e W'=>e = .returned (.tuple #[.int .i64 q.1,.bool q.2])∧Below W.heap.size W W')
    (hCP:∀ (X:List UInt8) (q:List UInt8×Bool) (W:World),Below w.heap.size w W->DC X [60]=some q->Calls Tryz.prog 56 #[strV X,.string ⟨#[60]⟩] W fun e W'=>e = .returned (.tuple #[strV q.1,.bool q.2])∧Below W.heap.size W W') :
    Calls Tryz.prog 30 #[.string ⟨line.toArray⟩] w (RdEnd O (⟨words,y.1,y.2.1,y.2.2⟩,true) w):=by
  have HO:=Lib.hid hO;have HL:=Lib.hid hlen;have HW0:=Lib.hid hw0;have HKF:=Lib.hid hKF;have HDW:=Lib.hid hDW;have HRD:=Lib.hid hRD;have HRM:=Lib.hid hRM;have HCP:=Lib.hid hCP;have HY:=Lib.hid hy;have HK:=Lib.hid hk;clear hO hlen hw0 hKF hDW hRD hRM hCP hy hk;have hB0:Below w.heap.size w (w.alloc (.cells #[.slice none 0 0,.slice none 0 0,.bool false,.bool false] 75)):=Below.alloc (Below.refl _ _) (Nat.le_refl _) _;have hn0:0<words.length:=HL.out▸hn
  go_enter Tryz.func30,Tryz.ntmps30
  go_wp2_with (first
    | (go_at_call 50;refine hSP.mono ?_;rintro e w1 ⟨v,rfl,hb1,hv⟩;have HV:=Lib.hid hv;obtain⟨b,off,cap,hvv,hbl,hbn,hat,hcap⟩:=words_of hv hn0;rw[← HL.out] at hvv hcap;subst hvv;have hc0:w1.cell? ⟨b,off,none⟩=some (strV ws0):=(hat 0 hn0).trans (by rw[HW0.out]);have HAT:=Lib.hid hat;have HBN:=Lib.hid hbn;clear hat hv hbn;have hB1:=hB0.trans (hb1.mono (Nat.le_succ _)))
    | (go_at_call 51;refine (HKF.out _ hB1).mono ?_;rintro e w2 ⟨rfl,hb2⟩;have hB2:=hB1.trans (hb2.mono hB1.size);have hc2:=(hb2.cell (p:=⟨b,off,none⟩) hbl).trans hc0))
  have hcd:w2.drew.cell? ⟨b,off,none⟩=some (strV ws0):=hc2;have hb2':b<w2.drew.heap.size:=Nat.lt_of_lt_of_le hbl hb2.size;have hBd:Below w.heap.size w w2.drew:=hB2.drew;have hkz:(kinds.length:Int)+1=(n:Int):=by have:=HK.out;omega
  have hw1:i64.wrap ((kinds.length:Int)+1)=(n:Int):=by rw[hkz];exact wrap_i64 (by omega) (by omega)
  have hwn:i64.wrap (n:Int)=(n:Int):=wrap_i64 (by omega) (by omega)
  go_region_held3 (fun w'=>w'.cell? ⟨b,off,none⟩=some (strV ws0)) (first|exact hcd|exact hc3|exact hc4) (first
    | (go_at_call 53;refine (HDW.out _ hBd).mono ?_;rintro e w3 ⟨vd,rfl,hb3,hCT⟩;have hc3:=(hb3.cell (p:=⟨b,off,none⟩) hb2').trans hcd;have hb3':=Nat.lt_of_lt_of_le hb2' hb3.size;have hB3:=hBd.trans (hb3.mono hBd.size))
    | (go_at_call 52;refine (hCT _ (Below.refl _ _)).mono ?_;rintro e w4 ⟨rfl,hb4⟩;have hc4:=(hb4.cell (p:=⟨b,off,none⟩) hb3').trans hc3;have hB4:=hB3.trans (hb4.mono hB3.size)))
  obtain⟨i0,hi,hz0,hz1,hz2⟩:=info_parts zZ;rcases Nat.lt_or_ge 1 cap with hc1|hc1
  · go_wp2_with (refine wpList_make_row _ rfl _ _ 73 rfl 2 i0 _ iG hi hz0 hz1 rfl .i64 .i64 n rfl rfl (by rw[hz2];omega) (by omega) ?_)
    have hnum:Jq (w4.alloc (.cells (madeCells #[.int .i64 0] n) 2)) w4.heap.size (List.replicate n 0):=by
      unfold Jq;rw[heap_alloc_new,cZ]
    have hs4:(w4.alloc (.cells (madeCells #[.int .i64 0] n) 2)).heap.size=w4.heap.size+1:=by simp
    obtain⟨w5,hw5⟩:∃ w5,w5=w4.alloc (.cells (madeCells #[.int .i64 0] n) 2):=⟨_,rfl⟩;have h45:Below w.heap.size w w5:=by rw[hw5];exact hB4.alloc hB4.size _
    rw[← hw5] at hnum hs4 ⊢
    have hcmd:Jl (w4.heap.size+1) w4.heap.size (.slice (some ⟨b,off,none⟩) n cap) n (List.replicate n 0) false false (w5.alloc (.cells #[.slice (some ⟨b,off,none⟩) n cap,.slice (some ⟨w4.heap.size,0,none⟩) n n,.bool false,.bool false] 75)):=by
      refine⟨?_,hnum.same (AR.alloc (fun _=>False) w5 _) id⟩;rw[← hs4,heap_alloc_new];simp
    have hsw:AR (fun _=>False) w1 w5:=by rw[hw5];exact ((((FM hb2).trans (AR.drew _ w2)).trans (FM hb3)).trans (FM hb4)).trans (AR.alloc _ w4 _)
    obtain⟨gn,hgn⟩:∃ g,g=w4.heap.size:=⟨_,rfl⟩;have hge:w.heap.size+1<=gn:=by rw[hgn];have:=hb1.size;have:=hb2.size;have:=hb3.size;have:=hb4.size;simp at *;omega
    have hblt:b<gn:=by rw[hgn];have:=hb2.size;have:=hb3.size;have:=hb4.size;simp at *;omega
    rw[← hgn] at hcmd hs4 ⊢
    have hrb5:w5.heap[w.heap.size]? = some (.cells #[.slice none 0 0,.slice none 0 0,.bool false,.bool false] 75 (0,0)):=by
      have hl1:w.heap.size<w1.heap.size:=by have:=hb1.size;simp at this;omega
      rw[hsw.block _ hl1 id,hb1.block _ (Nat.lt_succ_self _)];exact heap_alloc_new w _
    obtain⟨ww,hww⟩:∃ ww,ww=w5.alloc (.cells #[.slice (some ⟨b,off,none⟩) n cap,.slice (some ⟨gn,0,none⟩) n n,.bool false,.bool false] 75):=⟨_,rfl⟩;have hs5w:AR (fun _=>False) w5 ww:=by rw[hww];exact AR.alloc _ w5 _
    rw[← hww] at hcmd ⊢;have hsw1:=hsw.trans hs5w;have hrbw:ww.heap[w.heap.size]? = some (.cells #[.slice none 0 0,.slice none 0 0,.bool false,.bool false] 75 (0,0)):=by rw[hs5w.block _ (by omega) id,hrb5]
    have hatw:Nq ww b off words:=HAT.out.same hsw1 hbl id;have hBw:Below w.heap.size w ww:=h45.trans ((CW hs5w).mono h45.size);have hszw:ww.heap.size=gn+2:=by rw[hww];simp[hs4]
    have hg1:w1.heap.size<=gn:=by rw[hgn];have:=hb2.size;have:=hb3.size;have:=hb4.size;simp at *;omega
    have hVw:VR (fun q=>q=w.heap.size∨q=gn∨q=gn+1∨O q) ww (.slice (some ⟨b,off,none⟩) n cap) (.sl 1 (List.map AV.str words)):=HV.out.mono (hsw1.mono fun _ _ c=>c.elim) fun q hq c=>by
        rcases c with c|c|c|c
        · exact .inl c
        · omega
        · omega
        · exact .inr c
    have HRB:=Lib.hid hrbw;have HATW:=Lib.hid hatw;have HBW:=Lib.hid hBw;have HVW:=Lib.hid hVw;have HCMD:=Lib.hid hcmd;have HGE:=Lib.hid hge;have HBLT:=Lib.hid hblt;have HSZW:=Lib.hid hszw;clear hg1 hrbw hatw hBw hVw hcmd hge hblt hszw hww hs5w hsw1 hrb5 hsw hgn hs4 hw5 h45 hnum hb1 hb2 hb3 hb4 hc0 hc2 hcd hc3 hc4 hb2' hb3' hBd hB1 hB2 hB3 hB4 hCT hSP;have hnn:((n-1:Nat):Int)=(n:Int)-1:=by omega
    rw[hnn];clear hnn
    go_loopw [39] (fun i ws=>∃ (k:Nat) (ns:List Int) (f b':Bool),k+1<=n∧i = .int .i64 k∧ns.length=n∧Hid (AR (fun q=>q=gn∨q=gn+1) ww ws)∧Hid (Jl (gn+1) gn (.slice (some ⟨b,off,none⟩) n cap) n ns f b' ws)∧Hid (As kinds k (words.drop (k+1)) ns f b'=some y)) (fun i _=>n-(intOf i).toNat)
    case atStart=>exact⟨0,_,false,false,by omega,rfl,by simp[HL.out],Lib.hid (AR.refl _ _),HCMD,by have h:=HY.out;rw[← HL.out] at h;exact Lib.hid h⟩
    case round=>
      obtain⟨k,ns,f,b',hk1,rfl,hnl,hsm,hcm,hit⟩:=hrel
      by_cases hkl:k+1<n
      · obtain⟨X,hX⟩:∃ X,X=words.getD (k+1) default:=⟨_,rfl⟩
        have hdr:words.drop (k+1)=X::words.drop (k+1+1):=by
          rw[hX,List.drop_eq_getElem_cons (by have:=HL.out;omega),gdE,geE (by have:=HL.out;omega)];rfl
        have hit':=hit.out;rw[hdr] at hit';obtain⟨hkk,hks,hcase⟩:=lZ hit'
        have qx:wr.cell? ⟨b,off+1+k,none⟩=some (strV X):=by
          have h:=(HATW.out.same hsm.out (by have:=HBLT.out;have:=HSZW.out;omega) (by have:=HBLT.out;omega)) (k+1) (by have:=HL.out;omega);rw[← hX] at h;rw[show off+1+k=off+(k+1) by omega];exact h
        obtain⟨c,hc⟩:∃ c,c=kinds.getD k 0:=⟨_,rfl⟩;rw[← hc] at hcase;have HC:=Lib.hid hc;have HX:=Lib.hid hX;have hwk:i64.wrap ((k:Int)+1)=(k:Int)+1:=wrap_i64 (by omega) (by omega);have hi0:(0:Int)<=(k:Int)+1:=by omega
        have hi1:(k:Int)+1<(n:Int):=by omega
        have hBr:Below w.heap.size w wr:=⟨hsm.out.os.trans HBW.out.os,hsm.out.tape.trans HBW.out.tape,hsm.out.output.trans HBW.out.output,Nat.le_trans HBW.out.size hsm.out.size,fun q hq=>(hsm.out.block q (Nat.lt_of_lt_of_le hq HBW.out.size) (by have:=HGE.out;omega)).trans (HBW.out.block q hq)⟩;have hkb:k<(⟨kinds.toArray⟩:ByteArray).size:=by simpa[ByteArray.size] using hkk
        have hcv:(⟨kinds.toArray⟩:ByteArray)[k]'hkb=c:=by
          rw[hc,gdE,geE hkk];rfl
        have hS0:wr.drew.cell? ⟨gn+1,1,none⟩=some (.slice (some ⟨gn,0,none⟩) n n):=by
          have h:=(Jp hcm.out.hd).2.1;rw[hnl] at h;exact h
        have hSET:∀ (w':World) (u:Value),w'.cell? ⟨gn+1,1,none⟩=some (.slice (some ⟨gn,0,none⟩) n n)->(w'.setCell ⟨gn,k+1,none⟩ u).cell? ⟨gn+1,1,none⟩=some (.slice (some ⟨gn,0,none⟩) n n):=fun w' u h=>by
          rw[← h];exact Ek (Go.heap_setCell_other w' ⟨gn,k+1,none⟩ (gn+1) u (by simp))
        have HSET:=Lib.hid hSET;have hlt:=hcm.out.lt;have hcmd:Jl (gn+1) gn (.slice (some ⟨b,off,none⟩) n cap) n ns f b' wr.drew:=hcm.out.same (AR.drew (fun _=>False) wr) id id;have HCMD0:=Lib.hid hcmd;clear hc hX hdr hit' hit hSET hcmd;rcases hcase with hcase|hcase|hcase|hcase
        case' inl=>
          obtain⟨hch,q,hq,hnext⟩:=hcase;have HQ:=Lib.hid hq;have HNX:=Lib.hid hnext;have hcz:((c.toNat:Nat):Int)=110:=by rw[hch];rfl
          clear hq hnext hch
          go_wp2
          go_region_held3 (fun w'=>w'.cell? ⟨gn+1,1,none⟩=some (.slice (some ⟨gn,0,none⟩) n n)) (first|exact hS0|exact hS9|exact HSET.out _ _ hS9) (first
            | (go_at_call 54;refine (HRD.out X q _ (hBr.drew) HQ.out).mono ?_;rintro e w9 ⟨rfl,hb9⟩;have hS9:=(hb9.cell (p:=⟨gn+1,1,none⟩) hlt.1).trans hS0;obtain⟨d9,f9⟩:=(HCMD0.out.nu.same (FM hb9) id).cell hks;have HC9:=Lib.hid (HCMD0.out.same (FM hb9) id id);have HS9:=Lib.hid (((AR.drew _ wr).trans (FM hb9)):AR (fun _=>False) wr w9)))
          obtain⟨fz,hfz⟩:∃ fz,fz=f:=⟨_,rfl⟩;obtain⟨qb,hqb⟩:∃ qb,qb=q.2:=⟨_,rfl⟩;obtain⟨ns',hns⟩:∃ l,l=ns.set (k+1) q.1:=⟨_,rfl⟩;have hnl':ns'.length=n:=by rw[hns,List.length_set,hnl]
          have hz:=HC9.out.num (by omega) (k+1) q.1;have hs:AR (fun q=>q=gn∨q=gn+1) wr (w9.setCell ⟨gn,k+1,none⟩ (.int .i64 q.1)):=(HS9.out.mono fun _ _ c=>c.elim).trans ((EU ⟨gn,k+1,none⟩ _).mono fun _ _ c=>.inl c);have hnx:=HNX.out;obtain⟨wz,hwz⟩:∃ wz,wz=w9.setCell ⟨gn,k+1,none⟩ (.int .i64 q.1):=⟨_,rfl⟩;rw[← hwz] at hz hs ⊢;rw[← hns] at hz hnx;rw[← hqb] at hnx ⊢;rw[← hfz] at hz hnx;clear hfz hwz hns hqb HC9 HS9 d9 f9 hS9 hb9;have HZ:=Lib.hid hz;have HSZ:=Lib.hid hs;have HNZ:=Lib.hid hnx
        case' inr.inl=>
          obtain⟨hch,q,hq,hnext⟩:=hcase;have HQ:=Lib.hid hq;have HNX:=Lib.hid hnext;have hcz:((c.toNat:Nat):Int)=109:=by rw[hch];rfl
          clear hq hnext hch
          go_wp2
          go_region_held3 (fun w'=>w'.cell? ⟨gn+1,1,none⟩=some (.slice (some ⟨gn,0,none⟩) n n)) (first|exact hS0|exact hS9|exact HSET.out _ _ hS9) (first
            | (go_at_call 55;refine (HRM.out X q _ (hBr.drew) HQ.out).mono ?_;rintro e w9 ⟨rfl,hb9⟩;have hS9:=(hb9.cell (p:=⟨gn+1,1,none⟩) hlt.1).trans hS0;obtain⟨d9,f9⟩:=(HCMD0.out.nu.same (FM hb9) id).cell hks;have HC9:=Lib.hid (HCMD0.out.same (FM hb9) id id);have HS9:=Lib.hid (((AR.drew _ wr).trans (FM hb9)):AR (fun _=>False) wr w9)))
          obtain⟨fz,hfz⟩:∃ fz,fz=f:=⟨_,rfl⟩;obtain⟨qb,hqb⟩:∃ qb,qb=q.2:=⟨_,rfl⟩;obtain⟨ns',hns⟩:∃ l,l=ns.set (k+1) q.1:=⟨_,rfl⟩;have hnl':ns'.length=n:=by rw[hns,List.length_set,hnl]
          have hz:=HC9.out.num (by omega) (k+1) q.1;have hs:AR (fun q=>q=gn∨q=gn+1) wr (w9.setCell ⟨gn,k+1,none⟩ (.int .i64 q.1)):=(HS9.out.mono fun _ _ c=>c.elim).trans ((EU ⟨gn,k+1,none⟩ _).mono fun _ _ c=>.inl c);have hnx:=HNX.out;obtain⟨wz,hwz⟩:∃ wz,wz=w9.setCell ⟨gn,k+1,none⟩ (.int .i64 q.1):=⟨_,rfl⟩;rw[← hwz] at hz hs ⊢;rw[← hns] at hz hnx;rw[← hqb] at hnx ⊢;rw[← hfz] at hz hnx;clear hfz hwz hns hqb HC9 HS9 d9 f9 hS9 hb9;have HZ:=Lib.hid hz;have HSZ:=Lib.hid hs;have HNZ:=Lib.hid hnx
        case' inr.inr.inl=>
          obtain⟨hch,z,q,hz0',hq,hnext⟩:=hcase;have HZ0:=Lib.hid hz0';have HQ:=Lib.hid hq;have HNX:=Lib.hid hnext;have hcz:((c.toNat:Nat):Int)=102:=by rw[hch];rfl
          clear hq hnext hch hz0';have hcm2:=(Jp hcm.out.hd).2.2.2.2 2;have hcm3:=(Jp hcm.out.hd).2.2.1
          go_wp2_with (go_at_call 56;refine (HCP.out X z _ hBr HZ0.out).mono ?_;rintro e w8 ⟨rfl,hb8⟩;have HC8:=Lib.hid (hcm.out.same (FM hb8) id id);have c82:=(Jp HC8.out.hd).2.2.1;have f82:=(Jp HC8.out.hd).2.2.2.2 2)
          have hC8:=HC8.out.faint (by omega) z.2;have hS8:AR (fun q=>q=gn∨q=gn+1) wr (w8.setCell ⟨gn+1,2,none⟩ (.bool z.2)):=((FM hb8).mono fun _ _ c=>c.elim).trans ((EU ⟨gn+1,2,none⟩ _).mono fun _ _ c=>.inr c);obtain⟨wf,hwf⟩:∃ wf,wf=w8.setCell ⟨gn+1,2,none⟩ (.bool z.2):=⟨_,rfl⟩;rw[← hwf] at hC8 hS8 ⊢;have hBf:Below w.heap.size w wf:=⟨hS8.os.trans hBr.os,hS8.tape.trans hBr.tape,hS8.output.trans hBr.output,Nat.le_trans hBr.size hS8.size,fun q hq=>(hS8.block q (Nat.lt_of_lt_of_le hq hBr.size) (by have:=HGE.out;omega)).trans (hBr.block q hq)⟩;have hlt8:=hC8.lt;have hcmd8:Jl (gn+1) gn (.slice (some ⟨b,off,none⟩) n cap) n ns z.2 b' wf.drew:=hC8.same (AR.drew (fun _=>False) wf) id id
          have hS08:wf.drew.cell? ⟨gn+1,1,none⟩=some (.slice (some ⟨gn,0,none⟩) n n):=by
            have h:=(Jp hcmd8.hd).2.1;rw[hnl] at h;exact h
          have HCMD8:=Lib.hid hcmd8;have HS8:=Lib.hid hS8;clear hC8 hS8 hcmd8 hwf c82 f82 hb8 HC8 hcm2 hcm3
          go_region_held3 (fun w'=>w'.cell? ⟨gn+1,1,none⟩=some (.slice (some ⟨gn,0,none⟩) n n)) (first|exact hS08|exact hS9|exact HSET.out _ _ hS9) (first
            | (go_at_call 55;refine (HRM.out z.1 q _ (hBf.drew) HQ.out).mono ?_;rintro e w9 ⟨rfl,hb9⟩;have hS9:=(hb9.cell (p:=⟨gn+1,1,none⟩) hlt8.1).trans hS08;obtain⟨d9,f9⟩:=(HCMD8.out.nu.same (FM hb9) id).cell hks;have HC9:=Lib.hid (HCMD8.out.same (FM hb9) id id);have HS9:=Lib.hid ((HS8.out.trans (AR.drew _ wf)).trans ((FM hb9).mono fun _ _ c=>c.elim):AR (fun q=>q=gn∨q=gn+1) wr w9)))
          obtain⟨fz,hfz⟩:∃ fz,fz=z.2:=⟨_,rfl⟩;obtain⟨qb,hqb⟩:∃ qb,qb=q.2:=⟨_,rfl⟩;obtain⟨ns',hns⟩:∃ l,l=ns.set (k+1) q.1:=⟨_,rfl⟩;have hnl':ns'.length=n:=by rw[hns,List.length_set,hnl]
          have hz:=HC9.out.num (by omega) (k+1) q.1;have hs:AR (fun q=>q=gn∨q=gn+1) wr (w9.setCell ⟨gn,k+1,none⟩ (.int .i64 q.1)):=HS9.out.trans ((EU ⟨gn,k+1,none⟩ _).mono fun _ _ c=>.inl c);have hnx:=HNX.out;obtain⟨wz,hwz⟩:∃ wz,wz=w9.setCell ⟨gn,k+1,none⟩ (.int .i64 q.1):=⟨_,rfl⟩;rw[← hwz] at hz hs ⊢;rw[← hns] at hz hnx;rw[← hqb] at hnx ⊢;rw[← hfz] at hz hnx;clear hfz hwz hns hqb HC9 HS9 d9 f9 hS9 hb9;have HZ:=Lib.hid hz;have HSZ:=Lib.hid hs;have HNZ:=Lib.hid hnx
        case' inr.inr.inr=>
          obtain⟨hc1',hc2',hc3',hnext⟩:=hcase
          have hne:∀ d:UInt8,c≠d->(((c.toNat:Nat):Int)==((d.toNat:Nat):Int))=false:=fun d h=>by
            rw[beq_eq_false_iff_ne];intro e;exact h (UInt8.toNat_inj.1 (by omega))
          have e1:(((c.toNat:Nat):Int)==110)=false:=hne 110 hc1';have e2:(((c.toNat:Nat):Int)==109)=false:=hne 109 hc2';have e3:(((c.toNat:Nat):Int)==102)=false:=hne 102 hc3';clear hne;have HZ:=hcm;have HNX:=Lib.hid hnext;obtain⟨z0,z1,z2,z3,zf⟩:=Jp HZ.out.hd;have zf3:=zf 3;clear zf z0 z1 z2 hnext hS0;cases b' with
          | false=>
            go_wp2
            go_roundw
            case rel=>exact⟨k+1,ns,f,false,by omega,by go_num,hnl,Lib.hid (hsm.out.trans ((EU ⟨gn+1,3,none⟩ _).mono fun _ _ c=>.inr c)),Lib.hid (HZ.out.wrong (by omega) false),HNX⟩
            case measure=>simp[intOf];omega
          | true=>
            go_wp2
            go_roundw
            case rel=>exact⟨k+1,ns,f,true,by omega,by go_num,hnl,Lib.hid (hsm.out.trans ((EU ⟨gn+1,3,none⟩ _).mono fun _ _ c=>.inr c)),Lib.hid (HZ.out.wrong (by omega) true),HNX⟩
            case measure=>simp[intOf];omega
        all_goals
          obtain⟨z0,z1,z2,z3,zf⟩:=Jp HZ.out.hd;have zf3:=zf 3;clear zf z0 z1 z2 hS0;cases b' with
          | false=>
            go_wp2
            go_roundw
            case rel=>exact⟨k+1,ns',fz,!qb,by omega,by go_num,hnl',Lib.hid (hsm.out.trans (HSZ.out.trans ((EU ⟨gn+1,3,none⟩ _).mono fun _ _ c=>.inr c))),Lib.hid (HZ.out.wrong (by omega) (!qb)),HNZ⟩
            case measure=>simp[intOf];omega
          | true=>
            go_wp2
            go_roundw
            case rel=>exact⟨k+1,ns',fz,true,by omega,by go_num,hnl',Lib.hid (hsm.out.trans (HSZ.out.trans ((EU ⟨gn+1,3,none⟩ _).mono fun _ _ c=>.inr c))),Lib.hid (HZ.out.wrong (by omega) true),HNZ⟩
            case measure=>simp[intOf];omega
      · obtain rfl:k+1=n:=by omega
        have hnil:words.drop (k+1)=[]:=List.drop_eq_nil_of_le (by have:=HL.out;omega);obtain rfl:y=(ns,f,b'):=by have h:=hit.out;rw[hnil,As] at h;exact (Option.some.inj h).symm
        clear hit hnil
        have hrb:wr.heap[w.heap.size]? = some (.cells #[.slice none 0 0,.slice none 0 0,.bool false,.bool false] 75 (0,0)):=by
          rw[hsm.out.block _ (by have:=HSZW.out;have:=HGE.out;omega) (by have:=HGE.out;omega),HRB.out]
        obtain⟨r0,r1,r2,r3,rf⟩:=Jp hrb;have rf0:=rf 0;have rf1:=rf 1;have rf2:=rf 2;have rf3:=rf 3;obtain⟨m0,m1,m2,m3,_⟩:=Jp hcm.out.hd;rw[hnl] at m1;have hxs:=ABb (.slice (some ⟨b,off,none⟩) (k+1) cap) (.slice (some ⟨gn,0,none⟩) (k+1) (k+1)) (.bool f) (.bool b') hrb;have HXS:=Lib.hid hxs;clear rf hrb hxs
        go_wp2
        obtain⟨hrb6,hs6⟩:=HXS.out;obtain⟨w6,hw6⟩:∃ w6,w6=((((wr.setCell ⟨w.heap.size,0,none⟩ (.slice (some ⟨b,off,none⟩) (k+1) cap)).setCell ⟨w.heap.size,1,none⟩ (.slice (some ⟨gn,0,none⟩) (k+1) (k+1))).setCell ⟨w.heap.size,2,none⟩ (.bool f)).setCell ⟨w.heap.size,3,none⟩ (.bool b')):=⟨_,rfl⟩;rw[← hw6] at hrb6 hs6 ⊢;clear hw6 r0 r1 r2 r3 rf0 rf1 rf2 rf3 m0 m1 m2 m3;obtain⟨r0,r1,r2,r3,_⟩:=Jp hrb6
        (try simp only[Exit.inBlock,Exit.then])
        refine bodyPost_ret (v:=.tuple #[.agg #[.slice (some ⟨b,off,none⟩) (k+1) cap,.slice (some ⟨gn,0,none⟩) (k+1) (k+1),.bool f,.bool b'],.bool true]) (by rw[results_cell_tmp rfl];go_simp) rfl ?_;have hge:=HGE.out;refine⟨_,_,rfl,⟨hs6.os.trans (hsm.out.os.trans HBW.out.os),hs6.tape.trans (hsm.out.tape.trans HBW.out.tape),hs6.output.trans (hsm.out.output.trans HBW.out.output),Nat.le_trans HBW.out.size (Nat.le_trans hsm.out.size hs6.size),fun q hq _=>?_⟩,?_,?_⟩
        · have hq2:=Nat.lt_of_lt_of_le hq HBW.out.size;rw[hs6.block q (Nat.lt_of_lt_of_le hq2 hsm.out.size) (fun e=>by have e:q=w.heap.size:=e;omega),hsm.out.block q hq2 (by omega),HBW.out.block q hq]
        · exact HVW.out.mono ((hsm.out.mono fun q _ c=>c.elim (fun c=>.inr (.inl c)) fun c=>.inr (.inr (.inl c))).trans (hs6.mono fun q _ c=>.inl c)) fun _ _ c=>.inr (.inr (.inr c))
        · have h:=wx (S:=O) (cap:=k+1) (hcm.out.nu.same hs6 (fun e=>by have e:gn=w.heap.size:=e;omega)) (by omega) (fun e=>by have:=HO.out _ e;have:=HGE.out;omega);rw[hnl] at h;exact h
  · obtain rfl:n=1:=by omega
    obtain rfl:cap=1:=by omega
    go_wp2_with (refine wpList_make_row _ rfl _ _ 73 rfl 2 i0 _ iG hi hz0 hz1 rfl .i64 .i64 1 rfl rfl (by rw[hz2];omega) (by omega) ?_)
    have hnum:Jq (w4.alloc (.cells (madeCells #[.int .i64 0] 1) 2)) w4.heap.size (List.replicate 1 0):=by
      unfold Jq;rw[heap_alloc_new,cZ]
    have hs4:(w4.alloc (.cells (madeCells #[.int .i64 0] 1) 2)).heap.size=w4.heap.size+1:=by simp
    obtain⟨w5,hw5⟩:∃ w5,w5=w4.alloc (.cells (madeCells #[.int .i64 0] 1) 2):=⟨_,rfl⟩;have h45:Below w.heap.size w w5:=by rw[hw5];exact hB4.alloc hB4.size _
    rw[← hw5] at hnum hs4 ⊢
    have hcmd:Jl (w4.heap.size+1) w4.heap.size (.slice (some ⟨b,off,none⟩) 1 1) 1 (List.replicate 1 0) false false (w5.alloc (.cells #[.slice (some ⟨b,off,none⟩) 1 1,.slice (some ⟨w4.heap.size,0,none⟩) 1 1,.bool false,.bool false] 75)):=by
      refine⟨?_,hnum.same (AR.alloc (fun _=>False) w5 _) id⟩;rw[← hs4,heap_alloc_new];simp
    have hsw:AR (fun _=>False) w1 w5:=by rw[hw5];exact ((((FM hb2).trans (AR.drew _ w2)).trans (FM hb3)).trans (FM hb4)).trans (AR.alloc _ w4 _)
    obtain⟨gn,hgn⟩:∃ g,g=w4.heap.size:=⟨_,rfl⟩;have hge:w.heap.size+1<=gn:=by rw[hgn];have:=hb1.size;have:=hb2.size;have:=hb3.size;have:=hb4.size;simp at *;omega
    have hblt:b<gn:=by rw[hgn];have:=hb2.size;have:=hb3.size;have:=hb4.size;simp at *;omega
    rw[← hgn] at hcmd hs4 ⊢
    have hrb5:w5.heap[w.heap.size]? = some (.cells #[.slice none 0 0,.slice none 0 0,.bool false,.bool false] 75 (0,0)):=by
      have hl1:w.heap.size<w1.heap.size:=by have:=hb1.size;simp at this;omega
      rw[hsw.block _ hl1 id,hb1.block _ (Nat.lt_succ_self _)];exact heap_alloc_new w _
    obtain⟨ww,hww⟩:∃ ww,ww=w5.alloc (.cells #[.slice (some ⟨b,off,none⟩) 1 1,.slice (some ⟨gn,0,none⟩) 1 1,.bool false,.bool false] 75):=⟨_,rfl⟩;have hs5w:AR (fun _=>False) w5 ww:=by rw[hww];exact AR.alloc _ w5 _
    rw[← hww] at hcmd ⊢;have hsw1:=hsw.trans hs5w;have hrbw:ww.heap[w.heap.size]? = some (.cells #[.slice none 0 0,.slice none 0 0,.bool false,.bool false] 75 (0,0)):=by rw[hs5w.block _ (by omega) id,hrb5]
    have hatw:Nq ww b off words:=HAT.out.same hsw1 hbl id;have hBw:Below w.heap.size w ww:=h45.trans ((CW hs5w).mono h45.size);have hszw:ww.heap.size=gn+2:=by rw[hww];simp[hs4]
    have hg1:w1.heap.size<=gn:=by rw[hgn];have:=hb2.size;have:=hb3.size;have:=hb4.size;simp at *;omega
    have hVw:VR (fun q=>q=w.heap.size∨q=gn∨q=gn+1∨O q) ww (.slice (some ⟨b,off,none⟩) 1 1) (.sl 1 (List.map AV.str words)):=HV.out.mono (hsw1.mono fun _ _ c=>c.elim) fun q hq c=>by
        rcases c with c|c|c|c
        · exact .inl c
        · omega
        · omega
        · exact .inr c
    have HRB:=Lib.hid hrbw;have HATW:=Lib.hid hatw;have HBW:=Lib.hid hBw;have HVW:=Lib.hid hVw;have HCMD:=Lib.hid hcmd;have HGE:=Lib.hid hge;have HBLT:=Lib.hid hblt;have HSZW:=Lib.hid hszw;clear hg1 hrbw hatw hBw hVw hcmd hge hblt hszw hww hs5w hsw1 hrb5 hsw hgn hs4 hw5 h45 hnum hb1 hb2 hb3 hb4 hc0 hc2 hcd hc3 hc4 hb2' hb3' hBd hB1 hB2 hB3 hB4 hCT hSP;have hlen:words.length=1:=HL.out.symm
    obtain rfl:y=(List.replicate 1 0,false,false):=by
      have h:=HY.out;rw[List.drop_eq_nil_of_le (by omega),hlen,As] at h;exact (Option.some.inj h).symm
    go_loopw [39] (fun i ws=>i = .int .i64 0∧ws=ww) (fun i _=>0)
    case atStart=>exact⟨rfl,rfl⟩
    case round=>
      obtain⟨rfl,rfl⟩:=hrel
      have hrb:wr.heap[w.heap.size]? = some (.cells #[.slice none 0 0,.slice none 0 0,.bool false,.bool false] 75 (0,0)):=by
        rw[(AR.refl (fun q=>q=gn∨q=gn+1) wr).block _ (by have:=HSZW.out;have:=HGE.out;omega) (by have:=HGE.out;omega),HRB.out]
      obtain⟨r0,r1,r2,r3,rf⟩:=Jp hrb;have rf0:=rf 0;have rf1:=rf 1;have rf2:=rf 2;have rf3:=rf 3;obtain⟨m0,m1,m2,m3,_⟩:=Jp HCMD.out.hd;have hxs:=ABb (.slice (some ⟨b,off,none⟩) 1 1) (.slice (some ⟨gn,0,none⟩) 1 1) (.bool false) (.bool false) hrb;have HXS:=Lib.hid hxs;clear rf hrb hxs
      go_wp2
      obtain⟨hrb6,hs6⟩:=HXS.out;obtain⟨w6,hw6⟩:∃ w6,w6=((((wr.setCell ⟨w.heap.size,0,none⟩ (.slice (some ⟨b,off,none⟩) 1 1)).setCell ⟨w.heap.size,1,none⟩ (.slice (some ⟨gn,0,none⟩) 1 1)).setCell ⟨w.heap.size,2,none⟩ (.bool false)).setCell ⟨w.heap.size,3,none⟩ (.bool false)):=⟨_,rfl⟩;rw[← hw6] at hrb6 hs6 ⊢;clear hw6 r0 r1 r2 r3 rf0 rf1 rf2 rf3 m0 m1 m2 m3;obtain⟨r0,r1,r2,r3,_⟩:=Jp hrb6
      (try simp only[Exit.inBlock,Exit.then])
      refine bodyPost_ret (v:=.tuple #[.agg #[.slice (some ⟨b,off,none⟩) 1 1,.slice (some ⟨gn,0,none⟩) 1 1,.bool false,.bool false],.bool true]) (by rw[results_cell_tmp rfl];go_simp) rfl ?_;have hge:=HGE.out;refine⟨_,_,rfl,⟨hs6.os.trans ((AR.refl (fun q=>q=gn∨q=gn+1) wr).os.trans HBW.out.os),hs6.tape.trans ((AR.refl (fun q=>q=gn∨q=gn+1) wr).tape.trans HBW.out.tape),hs6.output.trans ((AR.refl (fun q=>q=gn∨q=gn+1) wr).output.trans HBW.out.output),Nat.le_trans HBW.out.size (Nat.le_trans (AR.refl (fun q=>q=gn∨q=gn+1) wr).size hs6.size),fun q hq _=>?_⟩,?_,?_⟩
      · have hq2:=Nat.lt_of_lt_of_le hq HBW.out.size;rw[hs6.block q (Nat.lt_of_lt_of_le hq2 (AR.refl (fun q=>q=gn∨q=gn+1) wr).size) (fun e=>by have e:q=w.heap.size:=e;omega),(AR.refl (fun q=>q=gn∨q=gn+1) wr).block q hq2 (by omega),HBW.out.block q hq]
      · exact HVW.out.mono (hs6.mono fun q _ c=>.inl c) fun _ _ c=>.inr (.inr (.inr c))
      · have h:=wx (S:=O) (cap:=1) (HCMD.out.nu.same hs6 (fun e=>by have e:gn=w.heap.size:=e;omega)) (by simp) (fun e=>by have:=HO.out _ e;have:=HGE.out;omega);exact h
end Go.Proofs.YteaicgcfpcklkaaGreatDoor.rdc
