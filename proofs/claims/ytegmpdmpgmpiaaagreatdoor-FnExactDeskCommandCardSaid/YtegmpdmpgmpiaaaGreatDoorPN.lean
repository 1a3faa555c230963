/- Lemmas. No condition. -/
import Derived.Test.YtegmpdmpgmpiaaaGreatDoorPM
open Go renaming heap_setCell_same->a8,World->ao,heap_alloc_new->a'
open Go.Lib renaming hid->a6
open Option renaming none->a7,some->aj
set_option linter.defProp false
set_option linter.unusedSimpArgs false
set_option linter.unusedVariables false
set_option maxRecDepth 100000
set_option maxHeartbeats 8000000
open Go.IntKind (i64 u64)
namespace Go.Proofs.YtegmpdmpgmpiaaaGreatDoor.l28
open Go Go.RowKit plot rdc
def Nm(e:AA):Array Value:=#[.int .i64 e.Time,.string ⟨e.Star.toArray⟩,.string ⟨e.Observer.toArray⟩,.int .i64 e.Mag,.bool e.Fainter]
variable{w:ao}
def AFm{S:Nat->Prop}{u:Value}{e:AA}(h:VR S w u (AC e)):u = .agg (Nm e):=by
 have h:VR S w u (.agg [.int .i64 e.Time,.str e.Star,.str e.Observer,.int .i64 e.Mag,.bool e.Fainter]):=h;cases h with
 | @agg cs U R ha h=>
  have J:=h 0 p';have I:=h 1 p';have h2:=h 2 p';have C:=h 3 p';have j:=h 4 p';obtain⟨l⟩:=cs
  match l,R with
  | [a,b,c,d,f],_=>
   have J:VR S w a (.int .i64 e.Time):=J;have I:VR S w b (.str e.Star):=I;have h2:VR S w c (.str e.Observer):=h2;have C:VR S w d (.int .i64 e.Mag):=C;have j:VR S w f (.bool e.Fainter):=j;cases J;cases I;cases h2;cases C;cases j
   rfl
variable{O:Nat->Prop}{j:Nat}{x:L8}{y:AA×Int}{C:Value}
def AAr{j:List AA}(h:Gp j x=aj y)(J:VR O w C (.sl 5 (List.map AC j)))(lo:∀b,O b->b<w.heap.size)(gt:GT O w):
  Calls Tryz.prog 81 #[C,.string ⟨x.toArray⟩] w fun e w'=>e = .returned (.tuple #[.agg #[.int .i64 y.1.Time,.string ⟨y.1.Star.toArray⟩,.string ⟨y.1.Observer.toArray⟩,.int .i64 y.1.Mag,.bool y.1.Fainter],.int .i64 y.2])/\AD C' w w' :=
 (DR s_160.s Tryz.func81 rfl z' (args:=[.sl 5 (List.map AC j),.str x]) (vargs:=#[C,.string ⟨x.toArray⟩]) rfl (by rw[AQH];rfl) rfl (hv2 J .str) lo gt (ANY h)).mono fun e w' ⟨u,I,h2,U⟩=>by
  obtain⟨a,rfl,R⟩:=tup2_inv U;rw[AFm R]at I;exact⟨I,h2⟩
variable{b:Nat}{I v1 v2:Value}{T:TypeId}
def AGE{j:Value}(h:w.heap[b]? = aj (.cells #[I,v1,v2,C,j] T (0,0))):
  w.cell? ⟨b,0,a7⟩=aj I/\w.cell? ⟨b,1,a7⟩=aj v1/\w.cell? ⟨b,2,a7⟩=aj v2/\w.cell? ⟨b,3,a7⟩=aj C/\w.cell? ⟨b,4,a7⟩=aj j /\
  w.frozen? ⟨b,0,a7⟩=false/\w.frozen? ⟨b,1,a7⟩=false/\w.frozen? ⟨b,2,a7⟩=false/\w.frozen? ⟨b,3,a7⟩=false/\w.frozen? ⟨b,4,a7⟩=false:=by
 refine⟨?_,?_,?_,?_,?_,?_,?_,?_,?_,?_⟩;all_goals first|(unfold World.cell?;rw[h];rfl)|(unfold World.frozen?;rw[h];rfl)
variable{sb:Nat}{v:Value}{s:GV}
def AAq{v:Fin 3->Value}{W:ao}(h:Gp s.d.Estimates x=aj y)(j:Q O sb I C v s w)(hs:AD C' w W):
  Calls Tryz.prog 81 #[C,.string ⟨x.toArray⟩] W fun e w'=>e = .returned (.tuple #[.agg #[.int .i64 y.1.Time,.string ⟨y.1.Star.toArray⟩,.string ⟨y.1.Observer.toArray⟩,.int .i64 y.1.Mag,.bool y.1.Fainter],.int .i64 y.2])/\AD C' w w'/\AD C' W w' :=
 (AAr h (j.still hs).se (j.still hs).lo (j.still hs).gt).mono fun e w' ⟨a,b⟩=>⟨a,hs.trans b,b⟩
def yH{O:Nat->Prop}{w:ao}{e:AA}{t:L8}{g:Nat}(h:Fg [e]=aj t)(hb:w.heap[g]? = aj (.cells (Nm e) 89 (0,0)))(J:¬ O g)(lo:∀b,O b->b<w.heap.size)(gt:GT O w):
  Calls Tryz.prog 82 #[.slice (aj ⟨g,0,a7⟩) 1 1] w fun e w'=>e = .returned (.string ⟨t.toArray⟩)/\AD C' w w':=by
 obtain⟨g0,g1,g2,g3,g4⟩:=ru hb
 have I:VR O w (.slice (aj ⟨g,0,a7⟩) 1 1) (.sl 5 (List.map AC [e])):=by
  refine VR.sl (sz:=5) (els:=[AC e]) g 0 (fun _ j=>(Nm e).getD j undef) rfl (Nat.le_refl _) x' (fun _=>⟨rfl,J⟩) (fun i hi=>?_) (fun i j hi C=>?_) (fun i j hi C=>?_)
  .match i,hi with
   |0,_=>exact⟨rfl,rfl⟩
  .match i,hi,j,C with
   |0,_,0,_=>exact g0
   |0,_,1,_=>exact g1
   |0,_,2,_=>exact g2
   |0,_,3,_=>exact g3
   |0,_,4,_=>exact g4
  .match i,hi,j,C with
   |0,_,0,_=>exact .int
   |0,_,1,_=>exact .str
   |0,_,2,_=>exact .str
   |0,_,3,_=>exact .int
   |0,_,4,_=>exact .bool
 exact(DR s_179.s Tryz.func82 rfl z' (args:=[.sl 5 (List.map AC [e])]) (vargs:=#[.slice (aj ⟨g,0,a7⟩) 1 1]) rfl (by rw[APx];rfl) rfl (hv1 I) lo gt (ANP h)).mono fun e w' ⟨u,U,h2,R⟩=>by cases R;exact⟨U,h2⟩
def ext0(t:L8)(k:Nat):(⟨t.toArray⟩:ByteArray).extract 0 k=⟨(t.take k).toArray⟩:=by
 apply ByteArray.ext;simp[ByteArray.data_extract]
def set5{v0 v3 U:Value}(R J I C j:Value)(h:w.heap[b]? = aj (.cells #[v0,v1,v2,v3,U] T (0,0))):
  (((((w.setCell ⟨b,0,a7⟩ R).setCell ⟨b,1,a7⟩ J).setCell ⟨b,2,a7⟩ I).setCell ⟨b,3,a7⟩ C).setCell ⟨b,4,a7⟩ j).heap[b]? = aj (.cells #[R,J,I,C,j] T (0,0))/\AD (fun k=>k=b) w (((((w.setCell ⟨b,0,a7⟩ R).setCell ⟨b,1,a7⟩ J).setCell ⟨b,2,a7⟩ I).setCell ⟨b,3,a7⟩ C).setCell ⟨b,4,a7⟩ j):=by
 have h0:=a8 w b 0 _ _ R h;have h1:=a8 _ b 1 _ _ J h0;have h2:=a8 _ b 2 _ _ I h1;have h3:=a8 _ b 3 _ _ C h2;have h4:=a8 _ b 4 _ _ j h3;exact⟨h4.trans rfl,((((CB (w:=w) ⟨b,0,a7⟩ R).trans (CB ⟨b,1,a7⟩ J)).trans (CB ⟨b,2,a7⟩ I)).trans (CB ⟨b,3,a7⟩ C)).trans (CB ⟨b,4,a7⟩ j)⟩
def al{o:Obj}(h:w.cell? ⟨b,j,a7⟩=aj v):(w.alloc o).cell? ⟨b,j,a7⟩=aj v:=(AD.alloc C' w o).cell id h
def dr(h:w.cell? ⟨b,j,a7⟩=aj v):w.drew.cell? ⟨b,j,a7⟩=aj v:=h
def se{w:ao}{b j c k:Nat}{u v:Value}(h:w.cell? ⟨b,j,a7⟩=aj v)(C:b≠c):(w.setCell ⟨c,k,a7⟩ u).cell? ⟨b,j,a7⟩=aj v:=(CB (w:=w) ⟨c,k,a7⟩ u).cell (fun e=>C e) h
attribute [local irreducible] Calls in
def ALH{s':GV}(h:At O sb s w)(hr:last s=aj s'):
  Calls Tryz.prog 48 #[.pointer (aj ⟨sb,0,a7⟩)] w fun e w'=>e = .returned (.tuple #[])/\GI O sb w s' w':=by
 obtain⟨az,hr⟩:=AY hr;have az:1<=s.texts.length:=of_decide_eq_true az;obtain⟨y,hy,hr⟩:=AO hr;obtain⟨⟨b,s1⟩,hq,hr⟩:=AO hr;obtain⟨va,vb,v,h⟩:=h;obtain⟨_,c1,_,_,_,c5,_,_⟩:=h.cells;obtain⟨gt,ct,et,lt,b0⟩:=Pp h n';rw[et]at c5;have t0:=b0 0 n';obtain⟨nt,bz⟩:∃n,n=s.texts.length:=⟨_,rfl⟩;obtain⟨T0,e4⟩:∃x,s.texts.getD 0 []=x:=⟨_,rfl⟩;rw[e4]at t0 hy;rw[←bz]at c5;have i5:0<nt:=n'
 have H:=a6 h;have HY:=a6 hy;have HQ:=a6 hq;have HR:=a6 hr;clear h hy hq hr b0 e4 bz az et;obtain⟨ae,me,ke,rfl⟩:=sl_of H.out.se;obtain⟨⟨Ti,St,Ob,Mg,Fa⟩,cd⟩:=y
 go_enter Tryz.func48,Tryz.ntmps48
 go_wp2
 have j:sb≠w.heap.size:=by have:=H.out.lt;omega
 have R:gt≠w.heap.size:=n'
 go_region_held3 (fun w'=>w'.cell? ⟨sb,1,a7⟩=aj (.slice ae me ke)/\w'.cell? ⟨sb,5,a7⟩=aj (.slice (aj ⟨gt,0,a7⟩) nt ct)/\w'.cell? ⟨gt,0,a7⟩=aj (.string ⟨T0.toArray⟩)) (with_reducible first|exact I.out|exact⟨dr c1,dr c5,dr t0⟩|exact⟨al c1,al c5,al t0⟩|exact⟨dr (al c1),dr (al c5),dr (al t0)⟩|exact⟨al I.out.1,al I.out.2.1,al I.out.2.2⟩|exact⟨se (se (se (se (se I.out.1 j) j) j) j) j,se (se (se (se (se I.out.2.1 j) j) j) j) j,se (se (se (se (se I.out.2.2 R) R) R) R) R⟩) (first
  |(go_at_call 81;refine(AAq HY.out H.out (by first|exact AD.drew _ _|exact AD.alloc _ _ _|exact(AD.drew _ _).trans (AD.alloc _ _ _)|exact(AD.alloc _ _ _).trans (AD.drew _ _))).mono ?_;rintro e w1 ⟨rfl,U,bh⟩;have I:=a6 (show _/\_/\_ from⟨U.cell id c1,U.cell id c5,U.cell id t0⟩);have S1:=a6 U;have S0:=a6 bh;clear U bh;first|(have bb:AD C' (w.alloc (.cells #[.int .i64 0,.string ⟨#[]⟩,.string ⟨#[]⟩,.int .i64 0,.bool false] 89)) w1:=(AD.drew _ _).trans S0.out;have au:=(bb.block w.heap.size p' id).trans (a' w (.cells #[.int .i64 0,.string ⟨#[]⟩,.string ⟨#[]⟩,.int .i64 0,.bool false] 89));obtain⟨z0,z1,z2,z3,z4,y0,y1,y2,y3,y4⟩:=AGE au;have b2:=a6 au;clear bb au)|skip))
 obtain⟨w2,J⟩:∃w2,w2=w1.alloc (.cells #[.int .i64 Ti,.string ⟨St.toArray⟩,.string ⟨Ob.toArray⟩,.int .i64 Mg,.bool Fa] 89):=⟨_,rfl⟩;have ay:AD C' w w2:=by rw[J];exact S1.out.trans (AD.alloc _ _ _)
 have C:w2.heap[w1.heap.size]? = aj (.cells (Nm ⟨Ti,St,Ob,Mg,Fa⟩) 89 (0,0)):=by rw[J];exact a' w1 _
 have aa:¬ O w1.heap.size:=fun c=>by have:=H.out.lo _ c;have:=S1.out.size;omega
 obtain⟨eb,ab⟩:∃b,b=w1.heap.size:=⟨_,rfl⟩;rw[←ab]at C aa ⊢;rw[←J];clear J ab
 rotate_left
 obtain⟨C,ax⟩:=set5 (.int .i64 Ti) (.string ⟨St.toArray⟩) (.string ⟨Ob.toArray⟩) (.int .i64 Mg) (.bool Fa) b2.out;obtain⟨w2,J⟩:∃w2,w2=(((((w1.setCell ⟨w.heap.size,0,a7⟩ (.int .i64 Ti)).setCell ⟨w.heap.size,1,a7⟩ (.string ⟨St.toArray⟩)).setCell ⟨w.heap.size,2,a7⟩ (.string ⟨Ob.toArray⟩)).setCell ⟨w.heap.size,3,a7⟩ (.int .i64 Mg)).setCell ⟨w.heap.size,4,a7⟩ (.bool Fa)):=⟨_,rfl⟩;rw[←J]at C ax ⊢;have ay:AD C' w w2:=Cs S1.out ax fun x hx c=>by have c:x=w.heap.size:=c;omega
 have aa:¬ O w.heap.size:=fun c=>by have:=H.out.lo _ c;omega
 have C:w2.heap[w.heap.size]? = aj (.cells (Nm ⟨Ti,St,Ob,Mg,Fa⟩) 89 (0,0)):=C;clear J ax b2 z0 z1 z2 z3 z4 y0 y1 y2 y3 y4;obtain⟨eb,ab⟩:∃b,b=w.heap.size:=⟨_,rfl⟩;rw[←ab]at C aa ⊢;clear ab
 all_goals
  obtain⟨g0,g1,g2,g3,g4⟩:=ru C;have S2:=a6 ay;have HB:=a6 C;have ad:=a6 aa;clear ay C c1 c5 t0 aa I j R;cases b with
  | true=>
   obtain rfl:=AX (show aj s1=aj s' from HR.out)
   go_wp2_with (go_at_call 19;refine(Ii ⟨_,_,_,H.out.still S2.out⟩ HQ.out).mono ?_;rintro e w4 ⟨rfl,he⟩;have E4:=a6 he;clear he)
   refine bodyPost_ret (results_none rfl _ _ _) rfl ?_;exact⟨rfl,GI.behind S2.out E4.out⟩
  | false=>
   obtain⟨t,ht,bs⟩:=AO (show(Fg [⟨Ti,St,Ob,Mg,Fa⟩]).bind (fun t=>ck (decide (0<t.length)&&decide (t.length<1099511627776))<|Nq s1 (t.take (t.length-1)))=aj s' from HR.out);obtain⟨hk,bo⟩:=AY bs;simp only[baT,dtE]at hk;obtain⟨eg,ef⟩:=hk;have HT:=a6 ht;have HS:=a6 bo;obtain⟨m,hm⟩:∃m,m=t.length:=⟨_,rfl⟩;have ed:i64.wrap ((t.length:Int)-1)=((t.length-1:Nat):Int):=by rw[Z1 n'];omega
   have hex:=ext0 t (t.length-1);have hle:t.length-1<=t.length:=n'
   have cf:((t.length-1:Nat):Int)<=(t.length:Int):=n'
   clear ht bo HR bs
   go_wp2_with (first
    |(go_at_call 19;refine(Ii ⟨_,_,_,H.out.still S2.out⟩ HQ.out).mono ?_;rintro e w4 ⟨rfl,O1,a1,b1,x1,q1⟩;have k0:=x1.cell (fun c=>ad.out c) g0;have k1:=x1.cell (fun c=>ad.out c) g1;have k2:=x1.cell (fun c=>ad.out c) g2;have k3:=x1.cell (fun c=>ad.out c) g3;have k4:=x1.cell (fun c=>ad.out c) g4;have A1:=a6 a1;have B1:=a6 b1;have X1:=a6 x1;have Q1:=a6 q1;clear a1 b1 x1 q1)
    |(go_at_call 82;refine(yH (O:=O1) HT.out (a' w4 _) (fun c=>by have:=Q1.out.lo _ c;omega) (Q1.out.still (AD.alloc _ _ _)).lo (Q1.out.still (AD.alloc _ _ _)).gt).mono ?_;rintro e w5 ⟨rfl,be⟩;have S5:=a6 ((AD.alloc C' _ _).trans be);clear be)
    |(go_at_call 21;refine(Zq (Q1.out.still S5.out) HS.out).mono ?_;rintro e w6 ⟨rfl,he⟩;have E6:=a6 he;clear he))
   refine bodyPost_end (results_none rfl _ _ _) rfl ?_;exact⟨rfl,GI.behind S2.out (GI.then A1.out B1.out X1.out (GI.behind S5.out E6.out))⟩
end Go.Proofs.YtegmpdmpgmpiaaaGreatDoor.l28
