/- Lemmas and walks, several texts in one. No condition. -/
import Derived.Test.YtegmpdmpgmpiaaaGreatDoorPM
open Go renaming heap_setCell_same->aj,World->au,heap_alloc_new->av
open Go.Lib renaming hid->a8
open Option renaming none->ad,some->ao
set_option linter.defProp false
set_option linter.unusedSimpArgs false
set_option linter.unusedVariables false
set_option maxRecDepth 100000
set_option maxHeartbeats 8000000
open Go.IntKind (i64 u64)
namespace Go.Proofs.YtegmpdmpgmpiaaaGreatDoor.l28
open Go Go.RowKit Go.Proofs.YtegmpdmpgmpiaaaGreatDoor Go.Proofs.YtegmpdmpgmpiaaaGreatDoor.plot Go.Proofs.YtegmpdmpgmpiaaaGreatDoor.rdc
def Mj(e:AA):Array Value:=#[.int .i64 e.Time,.string ⟨e.Star.toArray⟩,.string ⟨e.Observer.toArray⟩,.int .i64 e.Mag,.bool e.Fainter]
theorem ABD{S:Nat->Prop}{w:au}{u:Value}{e:AA}(h:VR S w u (AC e)):u = .agg (Mj e):=by
 have h:VR S w u (.agg [.int .i64 e.Time,.str e.Star,.str e.Observer,.int .i64 e.Mag,.bool e.Fainter]):=h;cases h with
 | @agg cs C p I h=>
  have o:=h 0 (by simp);have j:=h 1 (by simp);have h2:=h 2 (by simp);have i:=h 3 (by simp);have g:=h 4 (by simp);obtain⟨l⟩:=cs
  match l,p with
  | [a,b,c,d,f],_=>
   have o:VR S w a (.int .i64 e.Time):=o;have j:VR S w b (.str e.Star):=j;have h2:VR S w c (.str e.Observer):=h2;have i:VR S w d (.int .i64 e.Mag):=i;have g:VR S w f (.bool e.Fainter):=g;cases o;cases j;cases h2;cases i;cases g
   rfl
theorem wk{O:Nat->Prop}{w:au}{g:List AA}{x:List UInt8}{y:AA×Int}{i:Value}(h:GH g x=ao y)(o:VR O w i (.sl 5 (List.map AC g)))(lo:∀ b,O b->b<w.heap.size)(gt:GT O w):
  Calls Tryz.prog 81 #[i,.string ⟨x.toArray⟩] w fun e w'=>e = .returned (.tuple #[.agg #[.int .i64 y.1.Time,.string ⟨y.1.Star.toArray⟩,.string ⟨y.1.Observer.toArray⟩,.int .i64 y.1.Mag,.bool y.1.Fainter],.int .i64 y.2])∧AG (fun _=>False) w w' :=
 (DG s_160.s Tryz.func81 rfl (by decide +kernel) (args:=[.sl 5 (List.map AC g),.str x]) (vargs:=#[i,.string ⟨x.toArray⟩]) rfl (by rw[AKx];rfl) rfl (RA o .str) lo gt (AId h)).mono fun e w' ⟨u,j,h2,C⟩=>by
  obtain⟨a,rfl,p⟩:=KU C;rw[ABD p] at j;exact⟨j,h2⟩
theorem ABR{w:au}{b:Nat}{j v1 v2 i g:Value}{T:TypeId}(h:w.heap[b]? = ao (.cells #[j,v1,v2,i,g] T (0,0))):
  w.cell? ⟨b,0,ad⟩=ao j∧w.cell? ⟨b,1,ad⟩=ao v1∧w.cell? ⟨b,2,ad⟩=ao v2∧w.cell? ⟨b,3,ad⟩=ao i∧w.cell? ⟨b,4,ad⟩=ao g ∧
  w.frozen? ⟨b,0,ad⟩=false∧w.frozen? ⟨b,1,ad⟩=false∧w.frozen? ⟨b,2,ad⟩=false∧w.frozen? ⟨b,3,ad⟩=false∧w.frozen? ⟨b,4,ad⟩=false:=by
 refine⟨?_,?_,?_,?_,?_,?_,?_,?_,?_,?_⟩;all_goals first|(unfold World.cell?;rw[h];rfl)|(unfold World.frozen?;rw[h];rfl)
theorem wj{O:Nat->Prop}{sb:Nat}{j i:Value}{v:Fin 3->Value}{s:FL}{w W:au}{x:List UInt8}{y:AA×Int}(h:GH s.d.Estimates x=ao y)(g:Q O sb j i v s w)(hs:AG (fun _=>False) w W):
  Calls Tryz.prog 81 #[i,.string ⟨x.toArray⟩] W fun e w'=>e = .returned (.tuple #[.agg #[.int .i64 y.1.Time,.string ⟨y.1.Star.toArray⟩,.string ⟨y.1.Observer.toArray⟩,.int .i64 y.1.Mag,.bool y.1.Fainter],.int .i64 y.2])∧AG (fun _=>False) w w'∧AG (fun _=>False) W w' :=
 (wk h (g.still hs).se (g.still hs).lo (g.still hs).gt).mono fun e w' ⟨a,b⟩=>⟨a,hs.trans b,b⟩
theorem uB{O:Nat->Prop}{w:au}{e:AA}{t:List UInt8}{g:Nat}(h:FB [e]=ao t)(C:w.heap[g]? = ao (.cells (Mj e) 89 (0,0)))(I:¬ O g)(lo:∀ b,O b->b<w.heap.size)(gt:GT O w):
  Calls Tryz.prog 82 #[.slice (ao ⟨g,0,ad⟩) 1 1] w fun e w'=>e = .returned (.string ⟨t.toArray⟩)∧AG (fun _=>False) w w':=by
 obtain⟨U,g1,g2,T,R⟩:=oI C
 have p:VR O w (.slice (ao ⟨g,0,ad⟩) 1 1) (.sl 5 (List.map AC [e])):=by
  refine VR.sl (sz:=5) (els:=[AC e]) g 0 (fun _ j=>(Mj e).getD j undef) rfl (Nat.le_refl _) (by decide) (fun _=>⟨rfl,I⟩) (fun i hi=>?_) (fun i j hi o=>?_) (fun i j hi o=>?_)
  ·match i,hi with
   | 0,_=>exact⟨rfl,rfl⟩
  ·match i,hi,j,o with
   | 0,_,0,_=>exact U
   | 0,_,1,_=>exact g1
   | 0,_,2,_=>exact g2
   | 0,_,3,_=>exact T
   | 0,_,4,_=>exact R
  ·match i,hi,j,o with
   | 0,_,0,_=>exact .int
   | 0,_,1,_=>exact .str
   | 0,_,2,_=>exact .str
   | 0,_,3,_=>exact .int
   | 0,_,4,_=>exact .bool
 exact (DG s_179.s Tryz.func82 rfl (by decide +kernel) (args:=[.sl 5 (List.map AC [e])]) (vargs:=#[.slice (ao ⟨g,0,ad⟩) 1 1]) rfl (by rw[AKn];rfl) rfl (Xr p) lo gt (AIU h)).mono fun e w' ⟨u,P,h2,J⟩=>by cases J;exact⟨P,h2⟩
theorem ext0(t:List UInt8)(k:Nat):(⟨t.toArray⟩:ByteArray).extract 0 k=⟨(t.take k).toArray⟩:=by
 apply ByteArray.ext;simp[ByteArray.data_extract]
theorem set5{w:au}{b:Nat}{J v1 v2 I C:Value}{T:TypeId}(p o j i g:Value)(h:w.heap[b]? = ao (.cells #[J,v1,v2,I,C] T (0,0))):
  (((((w.setCell ⟨b,0,ad⟩ p).setCell ⟨b,1,ad⟩ o).setCell ⟨b,2,ad⟩ j).setCell ⟨b,3,ad⟩ i).setCell ⟨b,4,ad⟩ g).heap[b]? = ao (.cells #[p,o,j,i,g] T (0,0))∧AG (fun k=>k=b) w (((((w.setCell ⟨b,0,ad⟩ p).setCell ⟨b,1,ad⟩ o).setCell ⟨b,2,ad⟩ j).setCell ⟨b,3,ad⟩ i).setCell ⟨b,4,ad⟩ g):=by
 have h0:=aj w b 0 _ _ p h;have U:=aj _ b 1 _ _ o h0;have h2:=aj _ b 2 _ _ j U;have R:=aj _ b 3 _ _ i h2;have P:=aj _ b 4 _ _ g R;exact⟨P.trans rfl,((((DP (w:=w) ⟨b,0,ad⟩ p).trans (DP ⟨b,1,ad⟩ o)).trans (DP ⟨b,2,ad⟩ j)).trans (DP ⟨b,3,ad⟩ i)).trans (DP ⟨b,4,ad⟩ g)⟩
theorem al{w:au}{o:Obj}{b j:Nat}{v:Value}(h:w.cell? ⟨b,j,ad⟩=ao v):(w.alloc o).cell? ⟨b,j,ad⟩=ao v:=(AG.alloc (fun _=>False) w o).cell id h
theorem dr{w:au}{b j:Nat}{v:Value}(h:w.cell? ⟨b,j,ad⟩=ao v):w.drew.cell? ⟨b,j,ad⟩=ao v:=h
theorem se{w:au}{b j c k:Nat}{u v:Value}(h:w.cell? ⟨b,j,ad⟩=ao v)(g:b≠c):(w.setCell ⟨c,k,ad⟩ u).cell? ⟨b,j,ad⟩=ao v:=(DP (w:=w) ⟨c,k,ad⟩ u).cell (fun e=>g e) h
attribute [local irreducible] Calls in
theorem AGU{O:Nat->Prop}{sb:Nat}{s s':FL}{w:au}(h:At O sb s w)(R:last s=ao s'):
  Calls Tryz.prog 48 #[.pointer (ao ⟨sb,0,ad⟩)] w fun e w'=>e = .returned (.tuple #[])∧Em O sb w s' w':=by
 obtain⟨ac,R⟩:=AO R;have ac:1<=s.texts.length:=of_decide_eq_true ac;obtain⟨y,hy,R⟩:=AN R;obtain⟨⟨b,s1⟩,hq,R⟩:=AN R;obtain⟨va,vb,v,h⟩:=h;obtain⟨_,c1,_,_,_,c5,_,_⟩:=h.cells;obtain⟨gt,ct,et,lt,a6⟩:=Ok h (by omega);rw[et] at c5;have t0:=a6 0 (by omega);obtain⟨nt,a4⟩:∃ n,n=s.texts.length:=⟨_,rfl⟩;obtain⟨T0,e4⟩:∃ x,s.texts.getD 0 []=x:=⟨_,rfl⟩;rw[e4] at t0 hy;rw[← a4] at c5;have i5:0<nt:=by omega
 have H:=a8 h;have HY:=a8 hy;have HQ:=a8 hq;have HR:=a8 R;clear h hy hq R a6 e4 a4 ac et;obtain⟨ae,me,ke,rfl⟩:=sl_of H.out.se;obtain⟨⟨Ti,St,Ob,Mg,Fa⟩,cd⟩:=y
 go_enter Tryz.func48,Tryz.ntmps48
 go_wp2
 have g:sb≠w.heap.size:=by have:=H.out.lt;omega
 have p:gt≠w.heap.size:=by omega
 go_region_held3 (fun w'=>w'.cell? ⟨sb,1,ad⟩=ao (.slice ae me ke)∧w'.cell? ⟨sb,5,ad⟩=ao (.slice (ao ⟨gt,0,ad⟩) nt ct)∧w'.cell? ⟨gt,0,ad⟩=ao (.string ⟨T0.toArray⟩)) (with_reducible first|exact j.out|exact⟨dr c1,dr c5,dr t0⟩|exact⟨al c1,al c5,al t0⟩|exact⟨dr (al c1),dr (al c5),dr (al t0)⟩|exact⟨al j.out.1,al j.out.2.1,al j.out.2.2⟩|exact⟨se (se (se (se (se j.out.1 g) g) g) g) g,se (se (se (se (se j.out.2.1 g) g) g) g) g,se (se (se (se (se j.out.2.2 p) p) p) p) p⟩) (first
  | (go_at_call 81;refine (wj HY.out H.out (by first|exact AG.drew _ _|exact AG.alloc _ _ _|exact (AG.drew _ _).trans (AG.alloc _ _ _)|exact (AG.alloc _ _ _).trans (AG.drew _ _))).mono ?_;rintro e T ⟨rfl,C,a0⟩;have j:=a8 (show _∧_∧_ from ⟨C.cell id c1,C.cell id c5,C.cell id t0⟩);have S1:=a8 C;have S0:=a8 a0;clear C a0;first|(have ax:AG (fun _=>False) (w.alloc (.cells #[.int .i64 0,.string ⟨#[]⟩,.string ⟨#[]⟩,.int .i64 0,.bool false] 89)) T:=(AG.drew _ _).trans S0.out;have U:=(ax.block w.heap.size (by simp) id).trans (av w (.cells #[.int .i64 0,.string ⟨#[]⟩,.string ⟨#[]⟩,.int .i64 0,.bool false] 89));obtain⟨z0,z1,z2,z3,z4,y0,y1,y2,y3,y4⟩:=ABR U;have a7:=a8 U;clear ax U)|skip))
 obtain⟨w2,o⟩:∃ w2,w2=T.alloc (.cells #[.int .i64 Ti,.string ⟨St.toArray⟩,.string ⟨Ob.toArray⟩,.int .i64 Mg,.bool Fa] 89):=⟨_,rfl⟩;have ab:AG (fun _=>False) w w2:=by rw[o];exact S1.out.trans (AG.alloc _ _ _)
 have i:w2.heap[T.heap.size]? = ao (.cells (Mj ⟨Ti,St,Ob,Mg,Fa⟩) 89 (0,0)):=by rw[o];exact av T _
 have I:¬ O T.heap.size:=fun c=>by have:=H.out.lo _ c;have:=S1.out.size;omega
 obtain⟨eb,J⟩:∃ b,b=T.heap.size:=⟨_,rfl⟩;rw[← J] at i I ⊢;rw[← o];clear o J
 rotate_left
 obtain⟨i,aa⟩:=set5 (.int .i64 Ti) (.string ⟨St.toArray⟩) (.string ⟨Ob.toArray⟩) (.int .i64 Mg) (.bool Fa) a7.out;obtain⟨w2,o⟩:∃ w2,w2=(((((T.setCell ⟨w.heap.size,0,ad⟩ (.int .i64 Ti)).setCell ⟨w.heap.size,1,ad⟩ (.string ⟨St.toArray⟩)).setCell ⟨w.heap.size,2,ad⟩ (.string ⟨Ob.toArray⟩)).setCell ⟨w.heap.size,3,ad⟩ (.int .i64 Mg)).setCell ⟨w.heap.size,4,ad⟩ (.bool Fa)):=⟨_,rfl⟩;rw[← o] at i aa ⊢;have ab:AG (fun _=>False) w w2:=sI S1.out aa fun x hx c=>by have c:x=w.heap.size:=c;omega
 have I:¬ O w.heap.size:=fun c=>by have:=H.out.lo _ c;omega
 have i:w2.heap[w.heap.size]? = ao (.cells (Mj ⟨Ti,St,Ob,Mg,Fa⟩) 89 (0,0)):=i;clear o aa a7 z0 z1 z2 z3 z4 y0 y1 y2 y3 y4;obtain⟨eb,J⟩:∃ b,b=w.heap.size:=⟨_,rfl⟩;rw[← J] at i I ⊢;clear J
 all_goals
  obtain⟨g0,g1,g2,g3,g4⟩:=oI i;have S2:=a8 ab;have HB:=a8 i;have P:=a8 I;clear ab i c1 c5 t0 I j g p;cases b with
  | true=>
   obtain rfl:=AR (show ao s1=ao s' from HR.out)
   go_wp2_with (go_at_call 19;refine (GV ⟨_,_,_,H.out.still S2.out⟩ HQ.out).mono ?_;rintro e w4 ⟨rfl,he⟩;have E4:=a8 he;clear he)
   refine bodyPost_ret (results_none rfl _ _ _) rfl ?_;exact⟨rfl,Em.behind S2.out E4.out⟩
  | false=>
   obtain⟨t,ht,a3⟩:=AN (show (FB [⟨Ti,St,Ob,Mg,Fa⟩]).bind (fun t=>ck (decide (0<t.length)&&decide (t.length<1099511627776)) <| Mv s1 (t.take (t.length-1)))=ao s' from HR.out);obtain⟨hk,a2⟩:=AO a3;simp only[baT,dtE] at hk;obtain⟨dz,dw⟩:=hk;have HT:=a8 ht;have HS:=a8 a2;obtain⟨m,hm⟩:∃ m,m=t.length:=⟨_,rfl⟩;have df:i64.wrap ((t.length:Int)-1)=((t.length-1:Nat):Int):=by rw[Z1 (by omega)];omega
   have d0:=ext0 t (t.length-1);have ds:t.length-1<=t.length:=by omega
   have b5:((t.length-1:Nat):Int)<=(t.length:Int):=by omega
   clear ht a2 HR a3
   go_wp2_with (first
    | (go_at_call 19;refine (GV ⟨_,_,_,H.out.still S2.out⟩ HQ.out).mono ?_;rintro e w4 ⟨rfl,O1,a1,b1,x1,q1⟩;have k0:=x1.cell (fun c=>P.out c) g0;have k1:=x1.cell (fun c=>P.out c) g1;have k2:=x1.cell (fun c=>P.out c) g2;have k3:=x1.cell (fun c=>P.out c) g3;have k4:=x1.cell (fun c=>P.out c) g4;have A1:=a8 a1;have B1:=a8 b1;have X1:=a8 x1;have Q1:=a8 q1;clear a1 b1 x1 q1)
    | (go_at_call 82;refine (uB (O:=O1) HT.out (av w4 _) (fun c=>by have:=Q1.out.lo _ c;omega) (Q1.out.still (AG.alloc _ _ _)).lo (Q1.out.still (AG.alloc _ _ _)).gt).mono ?_;rintro e w5 ⟨rfl,ay⟩;have S5:=a8 ((AG.alloc (fun _=>False) _ _).trans ay);clear ay)
    | (go_at_call 21;refine (Wn (Q1.out.still S5.out) HS.out).mono ?_;rintro e w6 ⟨rfl,he⟩;have E6:=a8 he;clear he))
   refine bodyPost_end (results_none rfl _ _ _) rfl ?_;exact⟨rfl,Em.behind S2.out (Em.then A1.out B1.out X1.out (Em.behind S5.out E6.out))⟩
end Go.Proofs.YtegmpdmpgmpiaaaGreatDoor.l28
