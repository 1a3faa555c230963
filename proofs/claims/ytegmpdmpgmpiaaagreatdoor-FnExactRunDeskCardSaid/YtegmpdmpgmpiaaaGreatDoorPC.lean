/- Lemmas and walks, several texts in one. No condition. -/
import Derived.Test.YtegmpdmpgmpiaaaGreatDoorRows
import Derived.Test.YtegmpdmpgmpiaaaGreatDoorP7
import Derived.Shelf.Strings.Builder1
import Derived.Shelf.Strings.OnBuilder
import Derived.Lib.AppendStr
import Derived.Lib.AppendIntMem
import Derived.Deep.AppendLies
import Derived.WalkKit
import Derived.Lib.Hide
import Derived.Test.YtegmpdmpgmpiaaaGreatDoorP3
import Derived.LoopTactic
open Go renaming World->b9,heap_alloc_new->b',Calls->cA,TypeId->dT,ownsRow_setCell_other->e',maxLen->gr
open Go.Lib renaming hid->a7,byteCells->a8,byteCells_length->bs,strCells->cL,byteCells_append->cS
open Go.Proofs.Tryz renaming prog->bb,underlying54->dX,underlying52->e9,underlying51->eL,zeroValue54->fa,zeroValue52->fm,zeroValue51->fs,underlying9->fu,underlying3->fx,underlying0->fA,zeroValue9->fI,zeroValue3->f',zeroValue0->gj,sizeOf54->gu,sizeOf52->gv,sizeOf51->g',sizeOf9->h0,sizeOf3->h1,sizeOf0->h5,isAgg54->h6,isAgg52->h7,isAgg51->h8,isAgg9->hv,isAgg3->hA,isAgg0->hB,func24->hC
open Go.Value renaming ownBlock->bS
open Go.World renaming cell?->bI,frozen?->bX,setCell->gk
open List renaming length_append->b5,map->bN,take_of_length_le->cI,append_assoc->c'
open Nat renaming lt_of_lt_of_le->bo,le_trans->bR,le_refl->cb,le_of_lt->h9,zero_le->hD
open Option renaming some->a',none->be
set_option linter.defProp false
set_option linter.unusedSimpArgs false
set_option linter.unusedVariables false
set_option maxRecDepth 100000
set_option maxHeartbeats 8000000
namespace Go.Proofs.YtegmpdmpgmpiaaaGreatDoor
open Go Go.RowKit
def yy:Go.Shelf.Ren:=⟨fun
 | 166=>24
 | 167=>27
 | 169=>28
 | 240=>54
 | 276=>95
 | n=>n,fun
 | 0=>0
 | 3=>3
 | 4=>4
 | 5=>5
 | 9=>9
 | 20=>20
 | 37=>52
 | 70=>51
 | 72=>54
 | 75=>56
 | 80=>64
 | 127=>96
 | 164=>149
 | n=>n,fun|n=>n⟩
theorem rQ:Go.Proofs.Lays.n166 bb yy where
 mixed:=by kernel_rfl
 f166:=hC.trans (congrArg a' (by kernel_rfl))
 f240:=Tryz.func54.trans (congrArg a' (by kernel_rfl))
 f276:=Tryz.func95.trans (congrArg a' (by kernel_rfl))
 t0:=fA
 a0:=hB
 z0:=h5
 v0:=gj
 t3:=fx
 a3:=hA
 z3:=h1
 v3:=f'
 t4:=Tryz.underlying4
 a4:=Tryz.isAgg4
 z4:=Tryz.sizeOf4
 v4:=Tryz.zeroValue4
 t9:=fu
 a9:=hv
 z9:=h0
 v9:=fI
 t20:=Tryz.underlying20
 a20:=Tryz.isAgg20
 z20:=Tryz.sizeOf20
 v20:=Tryz.zeroValue20
 t37:=e9
 a37:=h7
 z37:=gv
 v37:=fm
 t70:=eL
 a70:=h8
 z70:=g'
 v70:=fs
 t72:=dX
 a72:=h6
 z72:=gu
 v72:=fa
 t75:=Tryz.underlying56
 a75:=Tryz.isAgg56
 z75:=Tryz.sizeOf56
 v75:=Tryz.zeroValue56
 t164:=Tryz.underlying149
 a164:=Tryz.isAgg149
 z164:=Tryz.sizeOf149
 v164:=Tryz.zeroValue149
theorem ABj:Go.Proofs.Lays.n169 bb yy where
 mixed:=by kernel_rfl
 f169:=Tryz.func28.trans (congrArg a' (by kernel_rfl))
 t0:=fA
 a0:=hB
 z0:=h5
 v0:=gj
 t3:=fx
 a3:=hA
 z3:=h1
 v3:=f'
 t9:=fu
 a9:=hv
 z9:=h0
 v9:=fI
 t37:=e9
 a37:=h7
 z37:=gv
 v37:=fm
 t70:=eL
 a70:=h8
 z70:=g'
 v70:=fs
 t72:=dX
 a72:=h6
 z72:=gu
 v72:=fa
 t127:=Tryz.underlying96
 a127:=Tryz.isAgg96
 z127:=Tryz.sizeOf96
 v127:=Tryz.zeroValue96
theorem AIC:Builder.Extra bb yy where
  sizeBuilder:=by kernel_rfl
  liesBuilder:=by kernel_rfl
  t5:=Tryz.underlying5
  a5:=Tryz.isAgg5
  z5:=Tryz.sizeOf5
  v5:=Tryz.zeroValue5
  infoByte:=by kernel_rfl
  cellsByte:=by kernel_rfl
  sizeByte:=by kernel_rfl
  neB5:=by decide
def jS(b:Nat)(l:List UInt8)(w:b9):Prop:=Lib.IsBuilder 54 5 b b (a8 l) w
theorem jS.lt{b:Nat}{l:List UInt8}{w:b9}(h:jS b l w):b<w.heap.size:=by
  rcases h with h|h<;>exact h.lt
theorem Zv{b:Nat}{l:List UInt8}{w:b9}(h:jS b l w):
    cA bb 28 #[.pointer (a' ⟨b,0,be⟩)] w fun e w'=>e = .returned (.string ⟨l.toArray⟩)∧Below b w w' :=
  Any.Builder_String_any ABj AIC b b l w h (h9 h.lt)
def Tc(b:Nat)(l:List UInt8)(v:Value)(w:b9):Prop := ∃ p,(p = .pointer be∨p = .pointer (a' ⟨b,0,be⟩))∧w.heap[b]? = a' (.cells #[p,v] 54 (0,0))∧w.ownsRow b 5 1 v (a8 l).length (a8 l)∧v.ownBlock≠a' b
theorem gi{b:Nat}{l:List UInt8}{v:Value}{w:b9}(h:Tc b l v w):jS b l w:=by
 obtain⟨p,j,i,h2,g⟩:=h;rcases j with rfl|rfl
 ·exact .inl ⟨cb _,v,i,h2,g⟩
 ·exact .inr ⟨cb _,v,i,h2,g⟩
theorem yx{b:Nat}{l:List UInt8}{v:Value}{w:b9}(h:Tc b l v w):cA bb 54 #[.pointer (a' ⟨b,0,be⟩)] w fun e w'=>e = .returned (.tuple #[]) ∧
  w'.heap[b]? = a' (.cells #[.pointer (a' ⟨b,0,be⟩),v] 54 (0,0))∧w'.ownsRow b 5 1 v (a8 l).length (a8 l)∧v.ownBlock≠a' b∧AG (fun k=>k=b) w w':=by
 obtain⟨p,o,g,h2,i⟩:=h;have j:w.cell? ⟨b,0,be⟩=a' p:=by unfold bI;rw[g];rfl
 rcases o with rfl|rfl
 ·refine (Any.Builder_copyCheck_fresh ({ rQ with }:Go.Proofs.Lays.n240 bb yy) AIC.toX72 b w j (by unfold World.shape?;rw[g];rfl) (by unfold bX;rw[g];rfl)).mono ?_;rintro e w' ⟨rfl,rfl⟩;refine⟨rfl,?_,e' (a:=⟨b,0,be⟩) h2 i _,i,⟨rfl,rfl,rfl,by simp[gk],fun k _ C=>Go.heap_setCell_other w ⟨b,0,be⟩ k _ C⟩⟩;rw[Go.heap_setCell_same w b 0 _ _ _ g];rfl
 ·refine (Any.Builder_copyCheck_used ({ rQ with }:Go.Proofs.Lays.n240 bb yy) AIC.toX72 b w j).mono ?_;rintro e w' ⟨rfl,rfl⟩;exact⟨rfl,g,h2,i,AG.refl _ _⟩
theorem fK:(bb.info? 5).map (fun i=>(i.zero,i.size,i.bytes))=a' (a' (.int .u8 0),1,1):=by kernel_rfl
theorem rR:bb.underlying 52=a' (.slice 5):=by kernel_rfl
theorem ABk:bb.underlying 9=a' .string:=by kernel_rfl
theorem Xv{b:Nat}{l:List UInt8}{v:Value}{w:b9}(h:Tc b l v w):b<w.heap.size:=(gi h).lt
theorem ly{b:Nat}{l s:List UInt8}{v v2:Value}{w o w2:b9}(T:o.heap[b]? = a' (.cells #[.pointer (a' ⟨b,0,be⟩),v] 54 (0,0)))(R:v.ownBlock≠a' b)(P:b<o.heap.size)(q:AG (fun k=>k=b) w o)
  (C:w2.ownsRow b 5 1 v2 (a8 (l++s)).length (a8 (l++s))) (j:o.grownBy w2 v.ownBlock) :
  Tc b (l++s) v2 (w2.setCell ⟨b,1,be⟩ v2)∧AG (fun k=>k=b∨v.ownBlock=a' k) w (w2.setCell ⟨b,1,be⟩ v2):=by
 have I:w2.heap[b]? = a' (.cells #[.pointer (a' ⟨b,0,be⟩),v] 54 (0,0)):=by rw[j.block b P (fun e=>R e.symm),T]
 have ne:v2.ownBlock≠a' b:=by
  rcases C.2 with⟨rfl,_⟩|⟨g,cap,U,rfl,_,i,_⟩
  ·intro e;cases e
  ·intro e;obtain rfl:g=b:=by simpa[bS] using e
   rw[I] at i;injection i with i
   injection i with _ i _
   exact absurd i (by decide)
 refine⟨⟨.pointer (a' ⟨b,0,be⟩),.inr rfl,by rw[Go.heap_setCell_same w2 b 1 _ _ _ I];rfl,e' (a:=⟨b,1,be⟩) C ne _,ne⟩,?_⟩;refine ((q.mono fun k _ e=>.inl e).trans (AG.mono (S:=fun k=>a' k=v.ownBlock) ⟨j.os,j.tape,j.output,j.size,fun k J p=>j.block k J p⟩ fun k _ e=>.inr e.symm)).trans ?_;exact⟨rfl,rfl,rfl,by simp[gk],fun k _ p=>Go.heap_setCell_other w2 ⟨b,1,be⟩ k _ (fun e=>p (.inl e))⟩
theorem Nn{w:b9}{N:Nat}{e:dT}{sz n:Nat}{v:Value}{xs:List Value}(h:w.ownsRow N e sz v n xs):∃ a c,v = .slice a n c:=by
 rcases h.2 with⟨rfl,rfl⟩|⟨g,cap,i,rfl,_⟩
 ·exact⟨_,_,rfl⟩
 ·exact⟨_,_,rfl⟩
theorem cV{P:Program}(w:b9)(base:Nat)(t u ty e:dT)(i:TypeInfo)(ht:P.underlying t=a' (.slice e))(hu:P.underlying u=a' .string)(hi:P.info? e=a' i)(hz:i.zero=a' (.int .u8 0))
  (o:i.size=1) (U:i.bytes=1) (v:Value) (n:Nat) (xs:List Value) (p:w.ownsRow base e 1 v n xs) (s:ByteArray) (ad:n+s.size<=gr) (J:n+s.size<=140737488355328) (aa:base<=w.heap.size) :
  ∃ v' w',(Builtin.append_ #[t,u] ty #[v,.string s]).run P w = .ok v' w'∧w'.ownsRow base e 1 v' (n+s.size) (xs++cL s)∧w.grownBy w' v.ownBlock∧∀ k,v'.ownBlock=a' k->v.ownBlock=a' k∨w.heap.size<=k:=by
 obtain⟨v',w',C,h2,h3,h4⟩:=Lib.run_append_own_string (P:=P) w base t u ty e i ht hu hi hz o U v n xs p s ad J aa;refine⟨v',w',C,h2,h3,fun k hk=>?_⟩;have au:n+s.size<=9223372036854775807:=by simp only[gr] at ad;omega
 have ax:xs.length=n:=by simpa using p.1
 rcases p.2 with⟨rfl,rfl⟩|⟨g,cap,ae,rfl,a5,hg,a2,a4,a0,ay⟩
 ·by_cases hm:s.size=0
  ·rw[h4.2 ⟨rfl,hm⟩] at hk;cases hk
  ·have I:=run_append_nil_string (P:=P) w t u ty e i (.int .u8 0) ht hu hi hz s (by omega) (by omega) (by rw[U];omega);rw[I] at C;injection C with C _
   subst C;have:w.heap.size=k:=by simpa[bS] using hk
   exact .inr (by omega)
 ·by_cases R:n+s.size<=cap
  ·have a1:ae.size=cap:=by simpa using a0
   have I:=Lib.run_append_room_string (P:=P) w t u ty e i ht hu hi o g n cap ae hg s R (by omega);rw[I] at C;injection C with C _
   subst C;exact .inl hk
  ·have T:∀ j u,xs[j]? = a' u->w.cell? ((⟨g,0,be⟩:Addr).add j)=a' u:=p.cells (g:=g) rfl;have I:=Lib.run_append_grow_string (P:=P) w t u ty e i (.int .u8 0) ht hu hi hz ⟨g,0,be⟩ n cap xs (by rw[o];simpa using ax) T s (by omega) (by omega) (by rw[U];exact growslice_fits (by omega) (by omega));rw[I] at C;injection C with C _
   subst C;have:w.heap.size=k:=by simpa[bS] using hk
   exact .inr (by omega)
theorem Te{P:Program}(w:b9){I:Array Oper}{rest:List Oper}{o:Oper}{a:Act}{Q:Exit->Act->b9->Prop}(R:o.guard=be)(sl x:Operand)(t u:dT)
  (ho:o.op = .call { callee:=.builtin .append,args:=#[sl,x],argTypes:=#[t,u] })
  (base:Nat) (e:dT) (i:TypeInfo) (ht:P.underlying t=a' (.slice e)) (hu:P.underlying u=a' .string) (hi:P.info? e=a' i) (hz:i.zero=a' (.int .u8 0))
  (j:i.size=1) (T:i.bytes=1)
  (v:Value) (n:Nat) (xs:List Value) (hs:a.eval sl=v) (J:w.ownsRow base e 1 v n xs) (s:ByteArray) (hx:a.eval x = .string s)
  (U:n+s.size<=gr) (g:n+s.size<=140737488355328) (p:base<=w.heap.size)
  (h:∀ C w',w'.ownsRow base e 1 C (n+s.size) (xs++cL s)->w.grownBy w' v.ownBlock->(∀ k,C.ownBlock=a' k->v.ownBlock=a' k∨w.heap.size<=k)->wpList P I Q rest (a.put o.dst C) w'):wpList P I Q (o::rest) a w:=by
 refine wpList_plain R fun K hK=>?_
 obtain⟨C,w',hr,h2,h3,h4⟩:=cV (P:=P) w base t u o.type e i ht hu hi hz j T v n xs J s U g p;unfold Oper.wp execOp;simp only[ho,resolve,invoke,builtin,Sem.run_bind,Sem.run_pure,Result.andThen_ok,List.map_toArray,List.map_cons,List.map_nil,hs,hx,hr];exact hK _ _ (h C w' h2 h3 h4)
attribute [local irreducible] cA in
theorem Zu{b:Nat}{l s:List UInt8}{v:Value}{w:b9}(h:Tc b l v w)(hl:l.length+s.length<=140737488355328){sb:ByteArray}(hs:sb=⟨s.toArray⟩):
  cA bb 24 #[.pointer (a' ⟨b,0,be⟩),.string sb] w fun e w'=>∃ v',e = .returned (.tuple #[.int .i64 s.length,.nilIface])∧Tc b (l++s) v' w'∧AG (fun k=>k=b∨v.ownBlock=a' k) w w'∧∀ k,v'.ownBlock=a' k->v.ownBlock=a' k∨w.heap.size<=k:=by
 subst hs;have H:=a7 h;have ab:=Xv h;have R:(a8 l).length=l.length:=bs l;have I:(⟨s.toArray⟩:ByteArray).size=s.length:=by simp[ByteArray.size]
 obtain⟨i0,hi,C,p,o⟩:=info_parts fK;have HI:=a7 hi;have HZ:=a7 C;have H1:=a7 p;have H2:=a7 o;have T:=a7 R;have g:=a7 I;clear h hi C p o R I
 go_enter hC,Tryz.ntmps24
 go_wp2_with (first
  | (go_at_call 54;refine (yx H.out).mono ?_;rintro e w1 ⟨rfl,m1,m2,m3,U⟩;have c1:w1.cell? ⟨b,1,be⟩=a' v:=(by unfold bI;rw[m1];rfl);have i:b<w1.heap.size:=bo ab U.size;have M1:=a7 m1;have M2:=a7 m2;have M3:=a7 m3;have M4:=a7 U;clear m1 m2 m3 U)
  | (at_builtin;refine Te _ rfl _ _ 52 9 rfl b 5 i0 rR ABk HI.out HZ.out H1.out H2.out v (a8 l).length (a8 l) rfl M2.out ⟨s.toArray⟩ rfl (by rw[T.out,g.out];unfold gr;omega) (by rw[T.out,g.out];exact hl) (h9 i) ?_;intro v2 w2 j g2 J;have HQ:=a7 J;clear J;obtain⟨va,vc,RA⟩:=Nn j;subst RA;have e2:w2.heap[b]? = _:=(g2.block b i (fun e=>M3.out e.symm)).trans M1.out;have c2:w2.cell? ⟨b,1,be⟩=a' v:=(by unfold bI;rw[e2];rfl);have f2:w2.frozen? ⟨b,1,be⟩=false:=(by unfold bX;rw[e2];rfl);have O2:=a7 j;have G2:=a7 g2;clear j g2 e2))
 go_ret2
 have j:=O2.out;have ec:cL ⟨s.toArray⟩=a8 s:=Lib.strCells_toArray s;rw[ec,← cS] at j;have P:=ly M1.out M3.out i M4.out (l:=l) (s:=s) (by rw[show (a8 (l++s)).length=(a8 l).length+(⟨s.toArray⟩:ByteArray).size by rw[bs,bs,g.out,b5]];exact j) G2.out;exact⟨_,by rw[← g.out];rfl,P.1,P.2,fun k hk=>(HQ.out k hk).imp id fun c=>bR M4.out.size c⟩
attribute [local irreducible] cA in
theorem fJ{b:Nat}{l:List UInt8}(c:UInt8){v:Value}{w:b9}(h:Tc b l v w)(hl:l.length+1<=140737488355328){n:Int}(hn:n=(c.toNat:Int)):
  cA bb 27 #[.pointer (a' ⟨b,0,be⟩),.int .u8 n] w fun e w'=>∃ v',e = .returned .nilIface∧Tc b (l++[c]) v' w'∧AG (fun k=>k=b∨v.ownBlock=a' k) w w'∧∀ k,v'.ownBlock=a' k->v.ownBlock=a' k∨w.heap.size<=k:=by
 subst hn;have H:=a7 h;have ad:=Xv h;have J:(a8 l).length=l.length:=bs l;obtain⟨i0,hi,C,p,o⟩:=info_parts fK;have HI:=a7 hi;have HZ:=a7 C;have H1:=a7 p;have H2:=a7 o;have T:=a7 J;clear h hi C p o J
 go_enter Tryz.func27,Tryz.ntmps27
 go_wp2_with (first
  | (go_at_call 54;refine (yx H.out).mono ?_;rintro e g ⟨rfl,m1,m2,m3,m4⟩;have c1:g.cell? ⟨b,1,be⟩=a' v:=(by unfold bI;rw[m1];rfl);have ae:b<g.heap.size:=bo ad m4.size;have M1:=a7 m1;have M2:=a7 m2;have M3:=a7 m3;have M4:=a7 m4;clear m1 m2 m3 m4)
  | (at_builtin;go_loud (refine wpList_append_lies _ rfl _ _ 52 rfl b 5 i0 _ 1 1 rR HI.out HZ.out H1.out H2.out rfl (by omega) v (a8 l).length (a8 l) rfl (M2.out.alloc _) ⟨g.heap.size,0,be⟩ 1 1 [.int .u8 (c.toNat:Int)] rfl rfl (World.news_of_block (cs:=#[.int .u8 (c.toNat:Int)]) (t:=5) (fr:=(0,0)) (b' g _)) (by simp[Value.oneCell']) (by omega) (by rw[T.out];unfold gr;omega) (by rw[T.out];omega) (by simp;omega) (g.heap.size+1) (by simp) ?_);intro g2 ax w2 j i R ac;have P:b<(g.alloc (.cells #[.int .u8 (c.toNat:Int)] 5)).heap.size:=(by simp;omega);have U:(g.alloc (.cells #[.int .u8 (c.toNat:Int)] 5)).heap[b]? = _:=(Go.heap_alloc_old g _ ae).trans M1.out;have e2:w2.heap[b]? = _:=(i.block b P (fun e=>M3.out e.symm)).trans U;have c2:w2.cell? ⟨b,1,be⟩=a' v:=(by unfold bI;rw[e2];rfl);have f2:w2.frozen? ⟨b,1,be⟩=false:=(by unfold bX;rw[e2];rfl);have O2:=a7 j;have G2:=a7 i;have M5:=a7 U;have AT:=a7 R;clear j i e2 U R ac))
 go_ret
 have j:=O2.out;have ec:a8 l++[Value.int .u8 (c.toNat:Int)]=a8 (l++[c]):=by rw[cS];rfl
 rw[ec] at j;have I:=ly M5.out M3.out P (M4.out.trans (AG.alloc _ g _)) (l:=l) (s:=[c]) (by rw[show (a8 (l++[c])).length=(a8 l).length+1 by rw[bs,bs,b5];rfl];exact j) G2.out
 exact⟨_,rfl,I.1,I.2,fun k hk=>by
  obtain rfl:g2=k:=by simpa[bS] using hk
  have a2:=M4.out.size;rcases AT.out with c|c
  ·exact .inl c
  ·have a1:g2=g.heap.size+1:=c;exact .inr (by omega)⟩
end Go.Proofs.YtegmpdmpgmpiaaaGreatDoor
namespace Go.Proofs.YtegmpdmpgmpiaaaGreatDoor.rund
open Go Go.RowKit Go.Proofs.YtegmpdmpgmpiaaaGreatDoor Go.Proofs.YtegmpdmpgmpiaaaGreatDoor.plot Go.Proofs.YtegmpdmpgmpiaaaGreatDoor.rdc
def OV(i g:Nat)(v:Value):Nat->Prop:=fun b=>b=i∨b=g∨v.ownBlock=a' b
theorem Tc.same{K:Nat->Prop}{b:Nat}{l:List UInt8}{v:Value}{w w':b9}(h:Tc b l v w)(hs:AG K w w')(o:¬ K b)(i:∀ k,v.ownBlock=a' k->¬ K k):Tc b l v w':=by
 have g:=Xv h;obtain⟨p,j,I,h2,C⟩:=h;exact⟨p,j,by rw[hs.block b g o,I],Iu h2 hs i,C⟩
structure RD(w0:b9)(db nb:Nat)(va vb v:Value)(d:Bp)(acc:List UInt8)(ws:b9):Prop where
 bel:Below w0.heap.size w0 ws
 hd:ws.heap[db]? = a' (.cells #[va,vb,.string ⟨d.Log.toArray⟩] 32 (0,0))
 bl:Tc nb acc v ws
 ne:db≠nb
 dv:v.ownBlock≠a' db
 g1:w0.heap.size<=db
 g2:w0.heap.size<=nb
 sa:VR (OV db nb v) ws va (.sl 5 (bN Ao d.Stars))
 sb:VR (OV db nb v) ws vb (.sl 5 (bN AC d.Estimates))
theorem RD.lt{j:b9}{i C:Nat}{p o v:Value}{d:Bp}{acc:List UInt8}{g:b9}(h:RD j i C p o v d acc g):i<g.heap.size:=by
 rcases Nat.lt_or_ge i g.heap.size with c|c
 ·exact c
 ·have:=h.hd;rw[Array.getElem?_eq_none c] at this;cases this
theorem RD.vlt{j:b9}{J i:Nat}{C o v:Value}{d:Bp}{acc:List UInt8}{g:b9}(h:RD j J i C o v d acc g){k:Nat}(I:v.ownBlock=a' k):i<=k∧k<g.heap.size:=by
 obtain⟨p,P,T,h2,R⟩:=h.bl;exact Iv h2 I
theorem RD.lo{o:b9}{j i:Nat}{C p v:Value}{d:Bp}{acc:List UInt8}{g:b9}(h:RD o j i C p v d acc g):∀ b,OV j i v b->b<g.heap.size:=by
 rintro b (rfl|rfl|c)
 ·exact h.lt
 ·exact Xv h.bl
 ·exact (h.vlt c).2
theorem RD.ge{g:b9}{j i:Nat}{C p v:Value}{d:Bp}{acc:List UInt8}{o:b9}(h:RD g j i C p v d acc o):∀ b,OV j i v b->g.heap.size<=b:=by
 rintro b (rfl|rfl|c)
 ·exact h.g1
 ·exact h.g2
 ·exact bR h.g2 (h.vlt c).1
theorem RD.gt{i:b9}{o j:Nat}{C p v:Value}{d:Bp}{acc:List UInt8}{g:b9}(h:RD i o j C p v d acc g)(I:GT (fun _=>False) i):GT (OV o j v) g :=
 I.mono (GU h.bel) fun b J c=>by have:=h.ge b c;omega
theorem RD.still{j:b9}{g C:Nat}{p o v:Value}{d:Bp}{acc:List UInt8}{i w':b9}(h:RD j g C p o v d acc i)(hs:AG (fun _=>False) i w'):RD j g C p o v d acc w' :=
 ⟨h.bel.trans ((CE hs).mono h.bel.size),by rw[hs.block g h.lt id,h.hd],Tc.same h.bl hs id (fun _ _=>id),h.ne,h.dv,h.g1,h.g2,h.sa.mono (hs.mono fun _ _ c=>c.elim) fun _ _ c=>c,h.sb.mono (hs.mono fun _ _ c=>c.elim) fun _ _ c=>c⟩
theorem RD.write{P:b9}{o j:Nat}{T R v J:Value}{d:Bp}{acc i:List UInt8}{p w':b9}(h:RD P o j T R v d acc p)(I:Tc j i J w')(hs:AG (fun k=>k=j∨v.ownBlock=a' k) p w')(U:∀ k,J.ownBlock=a' k->v.ownBlock=a' k∨p.heap.size<=k):
  RD P o j T R J d i w':=by
 have C:AG (OV o j v) p w':=hs.mono fun _ _ c=>.inr c
 have g:∀ b,b<p.heap.size->OV o j J b->OV o j v b:=by
  rintro b I (c|c|c)
  ·exact .inl c
  ·exact .inr (.inl c)
  ·rcases U b c with c|c
   ·exact .inr (.inr c)
   ·omega
 refine⟨⟨hs.os.trans h.bel.os,hs.tape.trans h.bel.tape,hs.output.trans h.bel.output,bR h.bel.size hs.size,fun b I=>?_⟩,?_,I,h.ne,fun c=>?_,h.g1,h.g2,h.sa.mono C g,h.sb.mono C g⟩
 ·rw[hs.block b (bo I h.bel.size) (fun c=>by have:=h.ge b (.inr c);omega),h.bel.block b I]
 ·rw[hs.block o h.lt (fun c=>c.elim h.ne h.dv),h.hd]
 ·rcases U o c with c|c
  ·exact h.dv c
  ·have:=h.lt;omega
theorem RD.put{I:b9}{g p:Nat}{R P v j i:Value}{d d':Bp}{acc:List UInt8}{o w':b9}(h:RD I g p R P v d acc o)(hs:AG (fun k=>k=g) o w')
  (hd:w'.heap[g]? = a' (.cells #[j,i,.string ⟨d'.Log.toArray⟩] 32 (0,0))) (sa:VR (OV g p v) o j (.sl 5 (bN Ao d'.Stars))) (sb:VR (OV g p v) o i (.sl 5 (bN AC d'.Estimates))) :
  RD I g p j i v d' acc w':=by
 have C:AG (OV g p v) o w':=hs.mono fun _ _ c=>.inl c
 refine⟨⟨hs.os.trans h.bel.os,hs.tape.trans h.bel.tape,hs.output.trans h.bel.output,bR h.bel.size hs.size,fun b J=>?_⟩,hd,Tc.same h.bl hs (fun c=>h.ne c.symm) (fun k T c=>h.dv (by rw[T,show k=g from c])),h.ne,h.dv,h.g1,h.g2,sa.mono C fun _ _ c=>c,sb.mono C fun _ _ c=>c⟩;rw[hs.block b (bo J h.bel.size) (fun c=>by have c:b=g:=c;have:=h.g1;omega),h.bel.block b J]
structure PV(db nb:Nat)(v:Value)(b off:Nat)(l:List (List UInt8))(w:b9):Prop where
 at_:Li w b off l
 lt:0<l.length->b<w.heap.size
 no:0<l.length->¬ OV db nb v b
theorem PV.still{i g:Nat}{v:Value}{b off:Nat}{l:List (List UInt8)}{w w':b9}(h:PV i g v b off l w)(hs:AG (fun _=>False) w w'):PV i g v b off l w' :=
 ⟨fun k j=>by rw[← h.at_ k j];exact GJ (hs.block b (h.lt (by omega)) id),fun c=>bo (h.lt c) hs.size,h.no⟩
theorem PV.write{j g:Nat}{v i:Value}{b off:Nat}{l:List (List UInt8)}{w w':b9}(h:PV j g v b off l w)(hs:AG (fun k=>k=g∨v.ownBlock=a' k) w w')(o:∀ k,i.ownBlock=a' k->v.ownBlock=a' k∨w.heap.size<=k):PV j g i b off l w':=by
 refine⟨fun k p=>?_,fun c=>bo (h.lt c) hs.size,fun c=>?_⟩
 ·rw[← h.at_ k p];exact GJ (hs.block b (h.lt (by omega)) fun c=>h.no (by omega) (.inr c))
 ·rintro (e|e|e)
  ·exact h.no c (.inl e)
  ·exact h.no c (.inr (.inl e))
  ·rcases o b e with e|e
   ·exact h.no c (.inr (.inr e))
   ·have:=h.lt c;omega
theorem PV.put{g i:Nat}{v:Value}{b off:Nat}{l:List (List UInt8)}{w w':b9}(h:PV g i v b off l w)(hs:AG (fun k=>k=g) w w'):PV g i v b off l w' :=
 ⟨fun k j=>by rw[← h.at_ k j];exact GJ (hs.block b (h.lt (by omega)) fun c=>h.no (by omega) (.inl c)),fun c=>bo (h.lt c) hs.size,h.no⟩
theorem XC(l:List (List UInt8)):∀ m,Dx (l++m)=Dx l++Dx m:=by
 induction l with
 | nil=>intro m;rfl
 | cons x r g=>intro m;show x++10::Dx (r++m)=(x++10::Dx r)++Dx m;rw[g];simp
theorem WM{l:List (List UInt8)}{j:Nat}(h:j<l.length):Dx (l.take (j+1))=Dx (l.take j)++l.getD j default++[10]:=by
 rw[List.take_succ_eq_append_getElem h,XC,gdE,geE h];simp[Dx]
theorem Sb{l:List (List UInt8)}{j:Nat}(h:j<l.length):(Dx (l.take j)).length+(l.getD j default).length+1<=(Dx l).length:=by
 have g:Dx l=Dx (l.take (j+1))++Dx (l.drop (j+1)):=by rw[← XC,List.take_append_drop]
 rw[g,WM h];simp;omega
theorem AEc{w:b9}{b:Nat}{g v1 v2:Value}{T:dT}(h:w.heap[b]? = a' (.cells #[g,v1,v2] T (0,0))):
  w.cell? ⟨b,0,be⟩=a' g∧w.cell? ⟨b,1,be⟩=a' v1∧w.cell? ⟨b,2,be⟩=a' v2∧∀ j,w.frozen? ⟨b,j,be⟩=false:=by
 refine⟨?_,?_,?_,fun j=>?_⟩
 ·unfold bI;rw[h];rfl
 ·unfold bI;rw[h];rfl
 ·unfold bI;rw[h];rfl
 ·unfold bX;rw[h];rfl
theorem set3{w:b9}{b:Nat}{o v1 v2:Value}{T:dT}(j i g:Value)(h:w.heap[b]? = a' (.cells #[o,v1,v2] T (0,0))):
  (((w.setCell ⟨b,0,be⟩ j).setCell ⟨b,1,be⟩ i).setCell ⟨b,2,be⟩ g).heap[b]? = a' (.cells #[j,i,g] T (0,0))∧AG (fun k=>k=b) w (((w.setCell ⟨b,0,be⟩ j).setCell ⟨b,1,be⟩ i).setCell ⟨b,2,be⟩ g):=by
 have C:=Go.heap_setCell_same w b 0 _ _ j h;have p:=Go.heap_setCell_same _ b 1 _ _ i C;have h2:=Go.heap_setCell_same _ b 2 _ _ g p;exact⟨h2.trans rfl,((DP (w:=w) ⟨b,0,be⟩ j).trans (DP ⟨b,1,be⟩ i)).trans (DP ⟨b,2,be⟩ g)⟩
theorem AFw{I p:Nat}{v o:Value}{w:b9}{l:List (List UInt8)}(h:VR (OV I p v) w o (.sl 1 (bN AV.str l))):∃ a cap b off,o = .slice a l.length cap∧(0<l.length->a=a' ⟨b,off,be⟩)∧PV I p v b off l w:=by
 by_cases g:0<l.length
 ·obtain⟨b,off,cap,e,R,i,j,_⟩:=words_of h g;exact⟨_,cap,b,off,e,fun _=>rfl,j,fun _=>R,fun _=>i⟩
 ·cases h with
  | @sl a n cap sz els b off rd i C J ha hc T U=>
   have P:(bN AV.str l).length=l.length:=by simp
   exact⟨a,cap,0,0,by rw[i,P],fun c=>absurd c g,fun k hk=>by omega,fun c=>absurd c g,fun c=>absurd c g⟩
theorem sL{text acc r:List UInt8}{d:Bp}(g:text≠[])(h:Bt 0 text d acc=a' r):acc.length+11<=1099511627776∧r=acc++[101,114,114,111,114,32,102,117,108,108,10]:=by
 rw[Bt,if_neg g] at h;obtain⟨i,h⟩:=AO h;exact⟨of_decide_eq_true i,(Option.some.inj h).symm⟩
theorem sM{k:Nat}{text acc r:List UInt8}{d:Bp}(o:text≠[])(h:Bt (k+1) text d acc=a' r):∃ y z,cM text [10]=a' y∧GR d y.1=a' z ∧
  (acc++Dx (if z.2.2=true then z.2.1 else [[63]])).length<=1099511627776∧z.2.1.length<=1099511627776∧Bt k y.2.1 (if z.2.2=true then z.1 else d) (acc++Dx (if z.2.2=true then z.2.1 else [[63]]))=a' r:=by
 rw[Bt,if_neg o] at h;obtain⟨y,j,h⟩:=AN h;obtain⟨z,i,h⟩:=AN h;obtain⟨g,h⟩:=AO h;simp only[baT,dtE] at g;exact⟨y,z,j,i,g.1,g.2,h⟩
theorem sl_of{S:Nat->Prop}{w:b9}{v:Value}{sz:Nat}{els:List AV}(h:VR S w v (.sl sz els)):∃ a n c,v = .slice a n c:=by
 cases h;exact⟨_,_,_,rfl⟩
def RunEnd(r:List UInt8)(w:b9)(e:Ending)(w':b9):Prop:=e = .returned (.string ⟨r.toArray⟩)∧Below w.heap.size w w'
theorem run_all(text:List UInt8)(d0:Bp)(r:List UInt8)(w:b9)(hr:Bt 60 text d0 []=a' r)(hg:GT (fun _=>False) w)
  (ex:cA bb 23 #[] w fun e w1=>∃ va vb,e = .returned (.agg #[va,vb,.string ⟨d0.Log.toArray⟩])∧Below w.heap.size w w1∧VR (fun _=>False) w1 va (.sl 5 (bN Ao d0.Stars))∧VR (fun _=>False) w1 vb (.sl 5 (bN AC d0.Estimates)))
  (e0:∀ (t:List UInt8) (y:List UInt8×List UInt8×Bool) (W:b9),Below w.heap.size w W->cM t [10]=a' y->cA bb 25 #[.string ⟨t.toArray⟩,.string ⟨#[10]⟩] W fun e W'=>e = .returned (.tuple #[.string ⟨y.1.toArray⟩,.string ⟨y.2.1.toArray⟩,.bool y.2.2])∧AG (fun _=>False) W W')
  (ew:∀ (O:Nat->Prop) (d:Bp) (line:List UInt8) (z:Bp×List (List UInt8)×Bool) (va vb:Value) (W:b9),(∀ b,O b->b<W.heap.size)->GT O W->VR O W va (.sl 5 (bN Ao d.Stars))->VR O W vb (.sl 5 (bN AC d.Estimates))->GR d line=a' z ->
   cA bb 26 #[.agg #[va,vb,.string ⟨d.Log.toArray⟩],.string ⟨line.toArray⟩] W fun e W'=>∃ ea d9 vo,e = .returned (.tuple #[.agg #[ea,d9,.string ⟨z.1.Log.toArray⟩],vo,.bool z.2.2])∧AG (fun _=>False) W W'∧VR O W' ea (.sl 5 (bN Ao z.1.Stars))∧VR O W' d9 (.sl 5 (bN AC z.1.Estimates))∧VR O W' vo (.sl 1 (bN AV.str z.2.1))) :
  cA bb 6 #[.string ⟨text.toArray⟩] w (RunEnd r w):=by
 have HR:=a7 hr;have gg:=a7 e0;have e6:=a7 ew;have HG:=a7 hg;clear hr e0 ew hg
 go_enter Tryz.func6,Tryz.ntmps6
 go_wp2_with (go_at_call 23;refine ex.mono ?_;rintro e w1 ⟨va,vb,rfl,a5,c7,c6⟩;obtain⟨a1,n1,c1,rfl⟩:=sl_of c7;obtain⟨a2,n2,c2,rfl⟩:=sl_of c6;have e5:=a7 c7;have e4:=a7 c6;clear c7 c6)
 obtain⟨g,b3⟩:∃ b,b=w1.heap.size:=⟨_,rfl⟩
 have ct:RD w g (g+1) (.slice a1 n1 c1) (.slice a2 n2 c2) (.slice be 0 0) d0 [] ((w1.alloc (.cells #[.slice a1 n1 c1,.slice a2 n2 c2,.string ⟨d0.Log.toArray⟩] 32)).alloc (.cells #[.pointer be,.slice be 0 0] 54)):=by
  have s1:=AG.alloc (fun _=>False) w1 (.cells #[.slice a1 n1 c1,.slice a2 n2 c2,.string ⟨d0.Log.toArray⟩] 32);have s2:=AG.alloc (fun _=>False) (w1.alloc (.cells #[.slice a1 n1 c1,.slice a2 n2 c2,.string ⟨d0.Log.toArray⟩] 32)) (.cells #[.pointer be,.slice be 0 0] 54);have c8:(w1.alloc (.cells #[.slice a1 n1 c1,.slice a2 n2 c2,.string ⟨d0.Log.toArray⟩] 32)).heap.size=g+1:=by simp[b3]
  have cm:∀ b,b<w1.heap.size->OV g (g+1) (.slice be 0 0) b->False:=fun b hb c=>by
   rcases c with c|c|c
   ·omega
   ·omega
   ·cases c
  refine⟨(a5.alloc a5.size _).alloc (bR a5.size s1.size) _,?_,⟨.pointer be,.inl rfl,?_,World.ownsRow_nil _ _ _ _,(fun c=>by cases c)⟩,by omega,(fun c=>by cases c),by rw[b3];exact a5.size,by have:=a5.size;omega,?_,?_⟩
  ·rw[s2.block g (by omega) id,b3];exact b' w1 _
  ·rw[← c8];exact b' _ _
  ·exact e5.out.mono (s1.trans s2) cm
  ·exact e4.out.mono (s1.trans s2) cm
 obtain⟨ww,ef⟩:∃ ww,ww=((w1.alloc (.cells #[.slice a1 n1 c1,.slice a2 n2 c2,.string ⟨d0.Log.toArray⟩] 32)).alloc (.cells #[.pointer be,.slice be 0 0] 54)):=⟨_,rfl⟩;rw[← ef] at ct ⊢;rw[← b3];have e3:=a7 ct;clear ct ef b3 a5 e5 e4 ex
 go_loopw [0,5] (fun t n ws=>∃ (k:Nat) (tx acc:List UInt8) (d:Bp) (va vb v:Value),k<=60∧t = .string ⟨tx.toArray⟩∧n = .int .i64 (60-(k:Int))∧Hid (RD w g (g+1) va vb v d acc ws)∧Hid (Bt k tx d acc=a' r)) (fun t n _=>60-(intOf n).toNat)
 case atStart=>exact⟨60,text,[],d0,_,_,_,cb _,rfl,rfl,e3,HR⟩
 case round=>
  clear e3 HR;obtain⟨k,tx,acc,d,va,vb,v,hk,rfl,rfl,ad,hit⟩:=hrel
  by_cases b0:tx=[]
  ·subst b0
   obtain rfl:r=acc:=by
    have h:=hit.out;cases k<;>(rw[Bt,if_pos rfl] at h;exact (Option.some.inj h).symm)
   go_wp2_with (go_at_call 28;refine (Zv (gi ad.out.bl)).mono ?_;rintro e w7 ⟨rfl,C⟩)
   go_ret
   exact⟨rfl,ad.out.bel.trans (C.mono ad.out.g2)⟩
  ·cases k with
   | zero=>
    obtain⟨hl,rfl⟩:=sL b0 hit.out;have f0:(tx==[])=false:=by simpa using b0
    clear hit
    go_wp2_with (first
     | (go_at_call 24;refine (Zu (s:=[101,114,114,111,114,32,102,117,108,108,10]) (l:=acc) ad.out.bl (by simp;omega) rfl).mono ?_;rintro e w5 ⟨v5,rfl,ev,ek,ej⟩;have d4:=a7 (ad.out.write ev ek ej);clear ev ek ej)
     | (go_at_call 28;refine (Zv (gi d4.out.bl)).mono ?_;rintro e w7 ⟨rfl,C⟩))
    go_ret
    exact⟨rfl,d4.out.bel.trans (C.mono d4.out.g2)⟩
   | succ k=>
    obtain⟨y,z,hy,hz,eu,et,b2⟩:=sM b0 hit.out;have f0:(tx==[])=false:=by simpa using b0
    have gw:((60:Int)-((k+1:Nat):Int)==60)=false:=by rw[beq_eq_false_iff_ne];omega
    have HY:=a7 hy;have HZ:=a7 hz;have e8:=a7 eu;have gf:=a7 et;have e7:=a7 b2;clear hy hz eu et b2 hit
    go_wp2_with (go_at_call 25;refine (gg.out tx y _ ad.out.bel HY.out).mono ?_;rintro e w2 ⟨rfl,fy⟩;have o:=a7 (ad.out.still fy);obtain⟨hm,hh,hf,_⟩:=AEc o.out.hd)
    obtain⟨dz,T,kz⟩:=z;cases kz with
    | true=>
     go_wp2_with (go_at_call 26;refine (e6.out (OV g (g+1) v) d y.1 (dz,T,true) va vb _ o.out.lo (o.out.gt HG.out) o.out.sa o.out.sb HZ.out).mono ?_;rintro e w3 ⟨fi,ff,fd,rfl,b1,ax,av,ca⟩;obtain⟨e1,m1,f1,rfl⟩:=sl_of ax;obtain⟨e2,m2,f2,rfl⟩:=sl_of av;have R:=a7 (o.out.still b1);have cf:=a7 ax;have cd:=a7 av;obtain⟨oa,gn,ob,ec,rfl,en,cl⟩:=AFw ca;have gb:=a7 en;have cn:=a7 cl;clear en cl;obtain⟨ga,f9,f8,cc⟩:=AEc (R.out.still (AG.alloc (fun _=>False) w3 (.cells #[.slice e1 m1 f1,.slice e2 m2 f2,.string ⟨dz.Log.toArray⟩] 32))).hd;have f7:=cc 0;have f6:=cc 1;have f5:=cc 2;clear cc;clear ax av ca)
     have hp:=set3 (.slice e1 m1 f1) (.slice e2 m2 f2) (.string ⟨dz.Log.toArray⟩) (R.out.still (AG.alloc (fun _=>False) w3 (.cells #[.slice e1 m1 f1,.slice e2 m2 f2,.string ⟨dz.Log.toArray⟩] 32))).hd;obtain⟨w4,c5⟩:∃ w4,w4=w3.alloc (.cells #[.slice e1 m1 f1,.slice e2 m2 f2,.string ⟨dz.Log.toArray⟩] 32):=⟨_,rfl⟩;have I:AG (fun _=>False) w3 w4:=by rw[c5];exact AG.alloc _ w3 _
     rw[← c5] at hp ⊢;have c9:=(R.out.still I).put (d':=dz) hp.2 hp.1 (cf.out.mono (I.mono fun _ _ c=>c.elim) fun _ _ c=>c) (cd.out.mono (I.mono fun _ _ c=>c.elim) fun _ _ c=>c);have dc:=(cn.out.still I).put hp.2;obtain⟨w5,bv⟩:∃ w5,w5=(((w4.setCell ⟨g,0,be⟩ (.slice e1 m1 f1)).setCell ⟨g,1,be⟩ (.slice e2 m2 f2)).setCell ⟨g,2,be⟩ (.string ⟨dz.Log.toArray⟩)):=⟨_,rfl⟩;rw[← bv] at c9 dc ⊢;have a6:=a7 c9;have b7:=a7 dc;clear c9 dc bv hp I c5 cf cd cn R ga f9 f8 f7 f6 f5 b1
     go_loopw [42] (fun i wr=>∃ (j:Nat) (v':Value),j<=T.length∧i = .int .i64 j∧Hid (RD w g (g+1) (.slice e1 m1 f1) (.slice e2 m2 f2) v' dz (acc++Dx (T.take j)) wr)∧Hid (PV g (g+1) v' ob ec T wr)) (fun i _=>T.length-(intOf i).toNat)
     case atStart=>exact⟨0,v,hD _,rfl,by simpa[Dx] using a6,b7⟩
     case round=>
      clear a6 b7;obtain⟨j,v',hj,rfl,p,aj⟩:=hrel
      by_cases au:j<T.length
      ·obtain⟨X,hX⟩:∃ X,X=T.getD j default:=⟨_,rfl⟩;have q0:=aj.out.at_ j au;rw[← hX] at q0;have J:=Sb au;rw[← hX] at J;have b4:(acc++Dx T).length<=1099511627776:=e8.out;have he:T.length<=1099511627776:=gf.out;have ao:=WM au;rw[← hX] at ao;have b8:=a7 ao;have f3:(0:Int)<=(j:Int):=by omega
       have df:(j:Int)<(T.length:Int):=by omega
       obtain rfl:=gb.out (by omega);clear hX ao;have f4:acc.length+(Dx (T.take j)).length+X.length+1<=1099511627776:=by rw[b5] at b4;omega
       clear b4 J
       go_wp2_with (first
        | (go_at_call 24;refine (Zu (s:=X) (l:=acc++Dx (T.take j)) p.out.bl (by rw[b5];omega) rfl).mono ?_;rintro e w6 ⟨v6,rfl,P,ac,aa⟩;have b6:=a7 (p.out.write P ac aa);have d6:=a7 (aj.out.write ac aa);clear P ac aa)
        | (go_at_call 27;refine (fJ (l:=acc++Dx (T.take j)++X) 10 b6.out.bl (by rw[b5,b5];omega) rfl).mono ?_;rintro e w7 ⟨v7,rfl,C,ab,U⟩;have d1:=a7 (b6.out.write C ab U);have d5:=a7 (d6.out.write ab U);clear C ab U))
       go_roundw
       case rel=>exact⟨j+1,v7,by omega,by go_num,by rw[b8.out];simpa[c'] using d1,d5⟩
       case measure=>simp[intOf];omega
      ·obtain rfl:j=T.length:=by omega
       have ae:=p.out;rw[cI (cb _)] at ae;have dw:=a7 ae;clear ae p aj
       go_wp2
       go_roundw
       case rel=>exact⟨k,y.2.1,acc++Dx T,dz,(.slice e1 m1 f1),(.slice e2 m2 f2),v',by omega,rfl,by go_num,dw,e7⟩
       case measure=>simp[intOf];omega
    | false=>
     go_wp2_with (go_at_call 26;refine (e6.out (OV g (g+1) v) d y.1 (dz,T,false) va vb _ o.out.lo (o.out.gt HG.out) o.out.sa o.out.sb HZ.out).mono ?_;rintro e w3 ⟨fi,ff,fd,rfl,b1,ax,av,ca⟩;obtain⟨e1,m1,f1,rfl⟩:=sl_of ax;obtain⟨e2,m2,f2,rfl⟩:=sl_of av;have R:=a7 (o.out.still b1);have cf:=a7 ax;have cd:=a7 av;skip;clear ax av ca)
     have es:=R.out.lo
     have ds:PV g (g+1) v (w3.heap.size+1) 0 [[63]] ((w3.alloc (.cells #[.slice e1 m1 f1,.slice e2 m2 f2,.string ⟨dz.Log.toArray⟩] 32)).alloc (.cells #[.string ⟨#[63]⟩] 9)):=by
      have c8:(w3.alloc (.cells #[.slice e1 m1 f1,.slice e2 m2 f2,.string ⟨dz.Log.toArray⟩] 32)).heap.size=w3.heap.size+1:=by simp
      refine⟨fun q hq=>?_,fun _=>by simp,fun _ c=>by have:=es _ c;omega⟩;obtain rfl:q=0:=by simpa using hq
      rw[← c8];unfold bI;rw[b'];rfl
     have a6:=a7 ((R.out.still (AG.alloc (fun _=>False) w3 (.cells #[.slice e1 m1 f1,.slice e2 m2 f2,.string ⟨dz.Log.toArray⟩] 32))).still (AG.alloc (fun _=>False) _ (.cells #[.string ⟨#[63]⟩] 9)));obtain⟨w5,bv⟩:∃ w5,w5=((w3.alloc (.cells #[.slice e1 m1 f1,.slice e2 m2 f2,.string ⟨dz.Log.toArray⟩] 32)).alloc (.cells #[.string ⟨#[63]⟩] 9)):=⟨_,rfl⟩;rw[← bv] at a6 ds ⊢;have b7:=a7 ds;clear bv ds es cf cd R b1
     go_loopw [42] (fun i wr=>∃ (j:Nat) (v':Value),j<=1∧i = .int .i64 j∧Hid (RD w g (g+1) va vb v' d (acc++Dx (([[63]]:List (List UInt8)).take j)) wr)∧Hid (PV g (g+1) v' (w3.heap.size+1) 0 [[63]] wr)) (fun i _=>1-(intOf i).toNat)
     case atStart=>exact⟨0,v,hD _,rfl,by simpa[Dx] using a6,b7⟩
     case round=>
      clear a6 b7;obtain⟨j,v',hj,rfl,p,aj⟩:=hrel
      by_cases au:j<1
      ·obtain⟨X,hX⟩:∃ X,X=([[63]]:List (List UInt8)).getD j default:=⟨_,rfl⟩;have q0:=aj.out.at_ j au;rw[← hX,Nat.zero_add] at q0;have J:=Sb (l:=[[63]]) (j:=j) au;rw[← hX] at J;have b4:(acc++Dx [[63]]).length<=1099511627776:=e8.out;have ao:=WM (l:=[[63]]) (j:=j) au;rw[← hX] at ao;have b8:=a7 ao;have f3:(0:Int)<=(j:Int):=by omega
       have df:(j:Int)<(1:Int):=by omega
       clear hX ao;have f4:acc.length+(Dx (([[63]]:List (List UInt8)).take j)).length+X.length+1<=1099511627776:=by rw[b5] at b4;omega
       clear b4 J
       go_wp2_with (first
        | (go_at_call 24;refine (Zu (s:=X) (l:=acc++Dx (([[63]]:List (List UInt8)).take j)) p.out.bl (by rw[b5];omega) rfl).mono ?_;rintro e w6 ⟨v6,rfl,P,ac,aa⟩;have b6:=a7 (p.out.write P ac aa);have d6:=a7 (aj.out.write ac aa);clear P ac aa)
        | (go_at_call 27;refine (fJ (l:=acc++Dx (([[63]]:List (List UInt8)).take j)++X) 10 b6.out.bl (by rw[b5,b5];omega) rfl).mono ?_;rintro e w7 ⟨v7,rfl,C,ab,U⟩;have d1:=a7 (b6.out.write C ab U);have d5:=a7 (d6.out.write ab U);clear C ab U))
       go_roundw
       case rel=>exact⟨j+1,v7,by omega,by go_num,by rw[b8.out];simpa[c'] using d1,d5⟩
       case measure=>simp[intOf];omega
      ·have df:j=1:=by omega
       have hc:¬ ((j:Int)<1):=by omega
       have ae:=p.out;rw[df,cI (show ([[63]]:List (List UInt8)).length<=1 by simp)] at ae;have dw:=a7 ae;clear ae p aj
       go_wp2
       go_roundw
       case rel=>exact⟨k,y.2.1,acc++Dx [[63]],d,va,vb,v',by omega,rfl,by go_num,dw,e7⟩
       case measure=>simp[intOf];omega
end Go.Proofs.YtegmpdmpgmpiaaaGreatDoor.rund
