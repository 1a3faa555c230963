/- Lemmas. No condition. -/
import Derived.Test.YtegmpdmpgmpiaaaGreatDoorPS
open Array renaming getElem?_eq_none->b0
open Go renaming heap_alloc_new->az,heap_setCell_same->b6,bodyPost_ret->b8,World->b9,TypeId->bI
open Go.Lib renaming hid->a7
open List renaming map->a'
open Option renaming none->a8,some->ay
set_option linter.defProp false
set_option linter.unusedSimpArgs false
set_option linter.unusedVariables false
set_option maxRecDepth 100000
namespace Go.Proofs.YtegmpdmpgmpiaaaGreatDoor.dsk
open Go Go.RowKit plot rdc
set_option maxHeartbeats 8000000
abbrev dC(x y:Value)(l:L8):Obj:=.cells #[x,y,.string ⟨l.toArray⟩] 32
abbrev zC:Obj:=.cells #[.slice a8 0 0,.slice a8 0 0,.string ⟨#[]⟩] 32
abbrev lC(x y:Value)(l:L8):Obj:=.cells #[x,y,.string ⟨l.toArray⟩] 27
variable{w:b9}{b:Nat}{j v1 v2:Value}{T:bI}
def II(h:w.heap[b]? = ay (.cells #[j,v1,v2] T (0,0))):
    w.cell? ⟨b,0,a8⟩=ay j/\w.cell? ⟨b,1,a8⟩=ay v1/\w.cell? ⟨b,2,a8⟩=ay v2:=by
  refine⟨?_,?_,?_⟩<;>(unfold World.cell?;rw[h];rfl)
def GF{w:b9}{b:Nat}{j v1 v2:Value}{T:bI}(h:w.heap[b]? = ay (.cells #[j,v1,v2] T (0,0))):
    w.cell? ⟨b,0,a8⟩=ay j/\w.cell? ⟨b,1,a8⟩=ay v1/\w.cell? ⟨b,2,a8⟩=ay v2/\w.frozen? ⟨b,0,a8⟩=false/\w.frozen? ⟨b,1,a8⟩=false/\w.frozen? ⟨b,2,a8⟩=false:=by
  refine⟨?_,?_,?_,?_,?_,?_⟩<;>first|(unfold World.cell?;rw[h];rfl)|(unfold World.frozen?;rw[h];rfl)
def ALh{C:Value}(h:w.heap[b]? = ay (.cells #[C,v1,v2,j] T (0,0))):
    w.cell? ⟨b,0,a8⟩=ay C/\w.cell? ⟨b,1,a8⟩=ay v1/\w.cell? ⟨b,2,a8⟩=ay v2/\w.cell? ⟨b,3,a8⟩=ay j:=by
  refine⟨?_,?_,?_,?_⟩<;>(unfold World.cell?;rw[h];rfl)
def Re{J:Value}(I C j:Value)(h:w.heap[b]? = ay (.cells #[J,v1,v2] T (0,0))):
    (((w.setCell ⟨b,0,a8⟩ I).setCell ⟨b,1,a8⟩ C).setCell ⟨b,2,a8⟩ j).heap[b]? = ay (.cells #[I,C,j] T (0,0))/\AD (fun k=>k=b) w (((w.setCell ⟨b,0,a8⟩ I).setCell ⟨b,1,a8⟩ C).setCell ⟨b,2,a8⟩ j):=by
  have U:=b6 w b 0 _ _ I h;have R:=b6 _ b 1 _ _ C U;have h2:=b6 _ b 2 _ _ j R;exact⟨h2.trans rfl,((CB (w:=w) ⟨b,0,a8⟩ I).trans (CB ⟨b,1,a8⟩ C)).trans (CB ⟨b,2,a8⟩ j)⟩
def Eb{fn:Func}{p u v:Tmp}(h:fn.results = #[.cell p 32,.tmp u,.tmp v])(tmps:Array Value)(w:b9)(g:Nat)(j v1 v2:Value)(I:tmps.getD p undef = .pointer (ay ⟨g,0,a8⟩))(J:w.heap[g]? = ay (.cells #[j,v1,v2] 32 (0,0))):
    (results fn tmps).run Tryz.prog w = .ok (.tuple #[.agg #[j,v1,v2],tmps.getD u undef,tmps.getD v undef]) w:=by
  have C:tmps[p]?.getD undef = .pointer (ay ⟨g,0,a8⟩):=by simpa using I
  simp[results,h,C,asAddr,run_loadVar_row w g 32 32 #[j,v1,v2] (0,0) _ J Tryz.underlying32 rfl o']
def ZF{N g:Nat}{x y:L8}(I:N<=g)(h:w.heap[g]? = ay (.cells #[.string (⟨x.toArray⟩++⟨y.toArray⟩)] T (0,0))):Own N 1 w (.slice (ay ⟨g,0,a8⟩) 1 1) (a' AV.str [x++y]) g 1:=by
  rw[l28.cat2]at h;refine⟨.inl rfl,fun _=>I,⟨Nat.le_refl _,Nat.le_refl _,fun i hi=>?_,fun _=>⟨_,_,_,h,.inl rfl,rfl,fun i j hi C=>?_⟩⟩,flT _⟩
  · match i,hi with
    |0,_=>exact⟨rfl,rfl⟩
  · match i,hi,j,C with
    |0,_,0,_=>exact .str
structure Two(W0 kb:Nat)(u v:Value)(d:Ad)(ub uc vb vc:Nat)(w1 w4:b9):Prop where
  hb:w4.heap[kb]? = ay (.cells #[u,v,.string ⟨d.Log.toArray⟩] 32 (0,0))
  sm:AD C' w1 w4
  ou:Own (W0+2) 5 w4 u (a' AN d.Stars) ub uc
  ov:Own (W0+2) 5 w4 v (a' AC d.Estimates) vb vc
  k0:W0+2<=kb
  ku:0<uc->ub≠kb
  kv:0<vc->vb≠kb
  ne:0<uc->0<vc->ub≠vb
def AOC{J ub uc U R:Nat}{u v:Value}{d:Ad}{C w2 j:b9}(hn:C.heap.size=J+2)(s2:AD C' C w2)(I:AD C' w2 j)(ou:Own C.drew.heap.size 5 w2 u (a' AN d.Stars) ub uc)(ov:Own w2.heap.size 5 j v (a' AC d.Estimates) U R):
    Two J j.heap.size u v d ub uc U R C (j.alloc (.cells #[u,v,.string ⟨d.Log.toArray⟩] 32)):=by
  have ae:C.drew.heap.size=J+2:=hn;have a:=s2.size;have b:=I.size;refine⟨az j _,(s2.trans I).trans (AD.alloc _ _ _),((ou.same I fun _=>id).same (AD.alloc C' _ _) fun _=>id).mono n',(ov.same (AD.alloc C' _ _) fun _=>id).mono n',n',fun p e=>?_,fun p e=>?_,fun p q e=>?_⟩
  · have:=ou.lt p;omega
  · have:=ov.lt p;omega
  · have:=ou.lt p;have:=ov.ge q;omega
def AOD{U J uc I vc:Nat}{u v:Value}{d:Ad}{j w2 C:b9}{o:Obj}{v0 v1 v2:Value}(hn:j.heap.size=U+2)(s2:AD C' j w2)(R:AD C' (w2.alloc o) C)(ou:Own j.drew.heap.size 5 w2 u (a' AN d.Stars) J uc)(ov:Own (w2.alloc o).heap.size 5 C v (a' AC d.Estimates) I vc)(hz:C.heap[w2.heap.size]? = ay (.cells #[v0,v1,v2] 32 (0,0))):
    Two U w2.heap.size u v d J uc I vc j (((C.setCell ⟨w2.heap.size,0,a8⟩ u).setCell ⟨w2.heap.size,1,a8⟩ v).setCell ⟨w2.heap.size,2,a8⟩ (.string ⟨d.Log.toArray⟩)):=by
  have ao:j.drew.heap.size=U+2:=hn;have a:=s2.size;have a2:(w2.alloc o).heap.size=w2.heap.size+1:=p'
  have b:=R.size;obtain⟨h1,h2⟩:=Re u v (.string ⟨d.Log.toArray⟩) hz;refine⟨h1,Cs ((s2.trans (AD.alloc _ _ o)).trans R) h2 fun x hx c=>(by have c:x=w2.heap.size:=c;omega),(((ou.same (AD.alloc C' _ o) fun _=>id).same R fun _=>id).same h2 fun p c=>?_).mono n',(ov.same h2 fun p c=>?_).mono n',n',fun p e=>?_,fun p e=>?_,fun p q e=>?_⟩
  · have c:J=w2.heap.size:=c;have:=ou.lt p;omega
  · have c:I=w2.heap.size:=c;have:=ov.ge p;omega
  · have:=ou.lt p;omega
  · have:=ov.ge p;omega
  · have:=ou.lt p;have:=ov.ge q;omega
def AOE{U J uc I vc:Nat}{u v:Value}{d:Ad}{j w2 C:b9}{o:Obj}{v0 v1 v2:Value}(hn:j.heap.size=U+2)(s2:AD C' (j.drew.alloc o) w2)(R:AD C' w2 C)(ou:Own (j.drew.alloc o).heap.size 5 w2 u (a' AN d.Stars) J uc)(ov:Own w2.heap.size 5 C v (a' AC d.Estimates) I vc)(hz:C.heap[j.heap.size]? = ay (.cells #[v0,v1,v2] 32 (0,0))):
    Two U j.heap.size u v d J uc I vc j (((C.setCell ⟨j.heap.size,0,a8⟩ u).setCell ⟨j.heap.size,1,a8⟩ v).setCell ⟨j.heap.size,2,a8⟩ (.string ⟨d.Log.toArray⟩)):=by
  have ao:j.drew.heap.size=U+2:=hn;have a2:(j.drew.alloc o).heap.size=j.heap.size+1:=p'
  have a:=s2.size;have b:=R.size;obtain⟨h1,h2⟩:=Re u v (.string ⟨d.Log.toArray⟩) hz;refine⟨h1,Cs ((((AD.drew _ j).trans (AD.alloc _ _ o)).trans s2).trans R) h2 fun x hx c=>(by have c:x=j.heap.size:=c;omega),((ou.same R fun _=>id).same h2 fun p c=>?_).mono n',(ov.same h2 fun p c=>?_).mono n',n',fun p e=>?_,fun p e=>?_,fun p q e=>?_⟩
  · have c:J=j.heap.size:=c;have:=ou.ge p;omega
  · have c:I=j.heap.size:=c;have:=ov.ge p;omega
  · have:=ou.ge p;omega
  · have:=ov.ge p;omega
  · have:=ou.lt p;have:=ov.ge q;omega
attribute [local irreducible] Calls in
def zO{d:Ad}{line:L8}{y:Ad×List L8×Bool}{va vb:Value}(hr:FF d line=ay y)(ha:VR C' w va (.sl 5 (a' AN d.Stars)))(hb:VR C' w vb (.sl 5 (a' AC d.Estimates)))(hg:GT C' w):
    Calls Tryz.prog 26 #[.agg #[va,vb,.string ⟨d.Log.toArray⟩],.string ⟨line.toArray⟩] w fun e w'=>∃vd vo,e = .returned (.tuple #[vd,vo,.bool y.2.2])/\AD C' w w'/\Rl w.heap.size w' vd vo y.1 y.2.1:=by
  obtain⟨S,hS,ab⟩:=AO hr;obtain⟨E,hE,bb⟩:=AO ab;obtain⟨⟨c,ok⟩,hC,ds⟩:=AO bb;obtain⟨a1,a2,a3,rfl⟩:=l28.sl_of ha;obtain⟨b1,b2,b3,rfl⟩:=l28.sl_of hb;have HS:=a7 hS;have HE:=a7 hE;have HC:=a7 hC;have HR:=a7 ds;have HA:=a7 ha;have HB:=a7 hb;have HG:=a7 hg;clear hS hE hC hr ab bb ds ha hb hg
  go_enter Tryz.func26,Tryz.ntmps26
  go_wp2
  obtain⟨C,b5⟩:∃x,x=w.heap.size:=⟨_,rfl⟩;obtain⟨w1,cc⟩:∃x,x=(w.alloc (dC (.slice a1 a2 a3) (.slice b1 b2 b3) d.Log)).alloc zC:=⟨_,rfl⟩;have hp:w1.heap.size=C+2:=by rw[cc,b5];unfold World.alloc;simp
  have S1:=a7 (show AD C' w w1 by rw[cc];exact(AD.alloc _ _ _).trans (AD.alloc _ _ _))
  have z1:w1.heap[C+1]? = ay zC:=by
    rw[cc,b5,show w.heap.size+1=(w.alloc (dC (.slice a1 a2 a3) (.slice b1 b2 b3) d.Log)).heap.size by unfold World.alloc;simp];exact az _ _
  have z0:w1.heap[C]? = ay (dC (.slice a1 a2 a3) (.slice b1 b2 b3) d.Log):=by
    rw[cc,b5];exact((AD.alloc C' _ _).block w.heap.size (by unfold World.alloc;simp) id).trans (az _ _)
  obtain⟨p0,p1,p2⟩:=II z0;have h8:=a7 z1;rw[←cc,←b5];have eW:(w.alloc (dC (.slice a1 a2 a3) (.slice b1 b2 b3) d.Log)).heap.size=C+1:=by rw[b5];unfold World.alloc;simp
  try rw[eW]
  clear cc z0 z1 eW;have V1:=a7 (HA.out.mono S1.out fun _ _ c=>c);have V2:=a7 (HB.out.mono S1.out fun _ _ c=>c);have G1:=a7 (gS HG.out S1.out);have n1:C≠w1.heap.size:=n'
  have e9:=a7 b5;have bz:=a7 hp;clear b5 hp
  go_region_held3 (fun w'=>w'.cell? ⟨C,0,a8⟩=ay (.slice a1 a2 a3)/\w'.cell? ⟨C,1,a8⟩=ay (.slice b1 b2 b3)/\w'.cell? ⟨C,2,a8⟩=ay (.string ⟨d.Log.toArray⟩)) (with_reducible first|exact I.out|exact⟨dr p0,dr p1,dr p2⟩|exact⟨l28.al I.out.1,l28.al I.out.2.1,l28.al I.out.2.2⟩|exact⟨dr (l28.al p0),dr (l28.al p1),dr (l28.al p2)⟩|exact⟨l28.al (dr p0),l28.al (dr p1),l28.al (dr p2)⟩|exact⟨l28.se (l28.se (l28.se I.out.1 (by assumption)) (by assumption)) (by assumption),l28.se (l28.se (l28.se I.out.2.1 (by assumption)) (by assumption)) (by assumption),l28.se (l28.se (l28.se I.out.2.2 (by assumption)) (by assumption)) (by assumption)⟩) (first
    | (go_at_call 56
       first
       | (refine(uq HS.out (V1.out.mono (AD.drew _ _) fun _ _ c=>c) (gS G1.out (AD.drew _ _))).mono ?_
          rintro e w2 ⟨u,ub,uc,rfl,R,ho⟩;have I:=a7 (show _/\_/\_ from⟨R.cell id (dr p0),R.cell id (dr p1),R.cell id (dr p2)⟩);have fy:=a7 R;have SU:=a7 ((AD.drew C' w1).trans R))
       | (refine(uq HS.out (V1.out.mono ((AD.drew _ _).trans (AD.alloc _ _ _)) fun _ _ c=>c) (gS G1.out ((AD.drew _ _).trans (AD.alloc _ _ _)))).mono ?_
          rintro e w2 ⟨u,ub,uc,rfl,R,ho⟩;have I:=a7 (show _/\_/\_ from⟨R.cell id (l28.al (dr p0)),R.cell id (l28.al (dr p1)),R.cell id (l28.al (dr p2))⟩);have fy:=a7 R;have SU:=a7 (((AD.drew C' w1).trans (AD.alloc _ _ _)).trans R);have ZK:=a7 (show w2.heap[w1.heap.size]? = ay zC from(R.block w1.heap.size p' id).trans (az w1.drew _)))
       obtain⟨u1,u2,u3,rfl⟩:=ho.slice;have n2:C≠w2.heap.size:=by have:=SU.out.size;have:=bz.out;omega
       have OU:=a7 ho;clear R ho)
    | (go_at_call 57
       first
       | (refine(ur HE.out (V2.out.mono SU.out fun _ _ c=>c) (gS G1.out SU.out)).mono ?_
          rintro e w3 ⟨v,vb,vc,rfl,J,ho⟩;have I:=a7 (show _/\_/\_ from⟨J.cell id I.out.1,J.cell id I.out.2.1,J.cell id I.out.2.2⟩);have ej:=a7 J;have SV:=a7 (SU.out.trans J);first
          | (have ZK:=a7 ((J.block w1.heap.size (by rcases Nat.lt_or_ge w1.heap.size w2.heap.size with q|q;exact q;have z:=ZK.out;rw[b0 q]at z;cases z) id).trans ZK.out)
             obtain⟨z0,z1,z2,y0,y1,y2⟩:=GF ZK.out)
          |skip)
       | (refine(ur HE.out (V2.out.mono (SU.out.trans (AD.alloc _ _ _)) fun _ _ c=>c) (gS G1.out (SU.out.trans (AD.alloc _ _ _)))).mono ?_
          rintro e w3 ⟨v,vb,vc,rfl,J,ho⟩;have I:=a7 (show _/\_/\_ from⟨J.cell id (l28.al I.out.1),J.cell id (l28.al I.out.2.1),J.cell id (l28.al I.out.2.2)⟩);have ej:=a7 J;have SV:=a7 ((SU.out.trans (AD.alloc _ _ _)).trans J);have ZK:=a7 (show w3.heap[w2.heap.size]? = ay zC from(J.block w2.heap.size p' id).trans (az w2 _));obtain⟨z0,z1,z2,y0,y1,y2⟩:=GF ZK.out)
       obtain⟨v1,v2,v3,rfl⟩:=ho.slice;have OV:=a7 ho;clear J ho))
  have T:=a7 (AOC (d:=⟨S,E,d.Log⟩) bz.out SU.out ej.out OU.out OV.out);obtain⟨w4,ba⟩:∃x,x=w3.alloc (dC (.slice u1 u2 u3) (.slice v1 v2 v3) d.Log):=⟨_,rfl⟩;obtain⟨kb,ad⟩:∃x,x=w3.heap.size:=⟨_,rfl⟩;rw[←ad]at T ⊢;rw[←ba]at T ⊢;clear ba ad
  rotate_left
  have T:=a7 (AOD (d:=⟨S,E,d.Log⟩) bz.out SU.out ej.out OU.out OV.out ZK.out);obtain⟨w4,ba⟩:∃x,x=((w3.setCell ⟨w2.heap.size,0,a8⟩ (.slice u1 u2 u3)).setCell ⟨w2.heap.size,1,a8⟩ (.slice v1 v2 v3)).setCell ⟨w2.heap.size,2,a8⟩ (.string ⟨d.Log.toArray⟩):=⟨_,rfl⟩;rw[←ba]at T ⊢;obtain⟨kb,ad⟩:∃x,x=w2.heap.size:=⟨_,rfl⟩;rw[←ad]at T ⊢;clear ba ad z0 z1 z2 y0 y1 y2 ZK
  rotate_left
  have T:=a7 (AOE (d:=⟨S,E,d.Log⟩) bz.out fy.out ej.out OU.out OV.out ZK.out);obtain⟨w4,ba⟩:∃x,x=((w3.setCell ⟨w1.heap.size,0,a8⟩ (.slice u1 u2 u3)).setCell ⟨w1.heap.size,1,a8⟩ (.slice v1 v2 v3)).setCell ⟨w1.heap.size,2,a8⟩ (.string ⟨d.Log.toArray⟩):=⟨_,rfl⟩;rw[←ba]at T ⊢;obtain⟨kb,ad⟩:∃x,x=w1.heap.size:=⟨_,rfl⟩;rw[←ad]at T ⊢;clear ba ad z0 z1 z2 y0 y1 y2 ZK
  rotate_left
  all_goals
    have B1:=a7 ((T.out.sm.block (C+1) (by have:=bz.out;omega) id).trans h8.out);have G4:=a7 (gS G1.out T.out.sm);have S4:=a7 (S1.out.trans T.out.sm);clear p0 p1 p2 n1 n2 I fy SU ej SV OU OV h8 V1 V2 G1 HA HB HS HE;have r1:=T.out.hb;cases ok with
    | false=>
      obtain rfl:=AX (show ay _=ay y from HR.out)
      go_wp2_with (go_at_call 58;refine(iO HC.out G4.out).mono ?_;rintro e w5 ⟨vw,vn,rfl,df,c7,c8⟩;obtain⟨x1,x2,x3,rfl⟩:=l28.sl_of c7;obtain⟨t1,t2,t3,rfl⟩:=l28.sl_of c8;obtain⟨q0,q1,q2,f0,f1,f2⟩:=GF (w:=w5.alloc (.cells #[.slice x1 x2 x3,.slice t1 t2 t3,.bool c.fainter_,.bool c.wrong_] 91)) (((df.trans (AD.alloc C' w5 _)).block (C+1) (by have:=T.out.sm.size;have:=bz.out;omega) id).trans B1.out);have S5:=a7 df)
      obtain⟨h1,h2⟩:=Re (.slice a8 0 0) (.slice a8 0 0) (.string ⟨#[]⟩) (((S5.out.trans (AD.alloc C' w5 (.cells #[.slice x1 x2 x3,.slice t1 t2 t3,.bool c.fainter_,.bool c.wrong_] 91))).block (C+1) (by have:=T.out.sm.size;have:=bz.out;omega) id).trans B1.out);refine b8 (Eb rfl _ _ (C+1) _ _ _ (by rfl) h1) rfl ?_;exact⟨_,_,rfl,Cs ((S4.out.trans S5.out).trans (AD.alloc _ _ _)) h2 fun x hx c=>(by have c:x=C+1:=c;have:=e9.out;omega),Rl.none _ _⟩
    | true=>
      obtain⟨cw,cn,cf,cb⟩:=c
      go_wp2_with (go_at_call 58;refine(iO HC.out G4.out).mono ?_;rintro e w5 ⟨vw,vn,rfl,df,c7,c8⟩;obtain⟨x1,x2,x3,rfl⟩:=l28.sl_of c7;obtain⟨t1,t2,t3,rfl⟩:=l28.sl_of c8;have S5:=a7 df;have HW:=a7 c7;have HN:=a7 c8;clear df c7 c8)
      have e8:=S5.out.trans (AD.alloc C' w5 (.cells #[.slice x1 x2 x3,.slice t1 t2 t3,.bool cf,.bool cb] 91));have e7:=az w5 (.cells #[.slice x1 x2 x3,.slice t1 t2 t3,.bool cf,.bool cb] 91 (0,0));have e5:(w5.alloc (.cells #[.slice x1 x2 x3,.slice t1 t2 t3,.bool cf,.bool cb] 91)).heap.size=w5.heap.size+1:=p'
      obtain⟨w6,hl⟩:∃x,x=w5.alloc (.cells #[.slice x1 x2 x3,.slice t1 t2 t3,.bool cf,.bool cb] 91):=⟨_,rfl⟩;obtain⟨kc,dx⟩:∃x,x=w5.heap.size:=⟨_,rfl⟩;rw[←dx]at e7 e5 ⊢;have ga:=a7 (AD.alloc C' w5 (.cells #[.slice x1 x2 x3,.slice t1 t2 t3,.bool cf,.bool cb] 91));rw[←hl]at e8 e7 e5 ga ⊢;obtain⟨s0,s1,s2,s3⟩:=ALh e7;have S6:=a7 e8;have ih:=a7 e5;have ir:=a7 dx;have ht:=(e8.block kb (by have:=T.out.sm.size;rcases Nat.lt_or_ge kb w4.heap.size with q|q;exact q;have z:=T.out.hb;rw[b0 q]at z;cases z) id).trans T.out.hb;obtain⟨p0,p1,p2⟩:=II ht;clear hl dx e8 e7 e5 r1
      go_region_held3 (fun w'=>w'.cell? ⟨kb,0,a8⟩=ay (.slice u1 u2 u3)/\w'.cell? ⟨kb,1,a8⟩=ay (.slice v1 v2 v3)/\w'.cell? ⟨kb,2,a8⟩=ay (.string ⟨d.Log.toArray⟩)) (with_reducible first|exact⟨dr p0,dr p1,dr p2⟩|exact⟨dr (l28.al p0),dr (l28.al p1),dr (l28.al p2)⟩|exact⟨l28.al (dr p0),l28.al (dr p1),l28.al (dr p2)⟩|exact⟨dr (l28.al (l28.al p0)),dr (l28.al (l28.al p1)),dr (l28.al (l28.al p2))⟩|exact⟨l28.al (l28.al (dr p0)),l28.al (l28.al (dr p1)),l28.al (l28.al (dr p2))⟩) (first|(fail))
      all_goals
        first
        | (obtain⟨w7,U⟩:∃x,x=((w6.alloc (.cells #[] 9)).alloc (dC (.slice u1 u2 u3) (.slice v1 v2 v3) d.Log)).drew:=⟨_,rfl⟩
           rw[←U];have ef:w7.heap[w6.heap.size+1]? = ay (dC (.slice u1 u2 u3) (.slice v1 v2 v3) d.Log):=by rw[U];exact heap_alloc2_new w6 _ _
           have aa:AD C' w6 w7:=by rw[U];exact((AD.alloc _ _ _).trans (AD.alloc _ _ _)).trans (AD.drew _ _)
           have e6:w6.heap.size<=w6.heap.size+1:=n'
           obtain⟨db,ea⟩:∃x,x=w6.heap.size+1:=⟨_,rfl⟩;rw[←ea]at ef e6 ⊢;clear U ea)
        | (obtain⟨w7,U⟩:∃x,x=((w6.alloc (dC (.slice u1 u2 u3) (.slice v1 v2 v3) d.Log)).alloc (.cells #[] 9)).drew:=⟨_,rfl⟩
           rw[←U];have ef:w7.heap[w6.heap.size]? = ay (dC (.slice u1 u2 u3) (.slice v1 v2 v3) d.Log):=by rw[U];exact heap_alloc2_old w6 _ _
           have aa:AD C' w6 w7:=by rw[U];exact((AD.alloc _ _ _).trans (AD.alloc _ _ _)).trans (AD.drew _ _)
           obtain⟨db,ea⟩:∃x,x=w6.heap.size:=⟨_,rfl⟩;have e6:w6.heap.size<=db:=n'
           generalize w6.heap.size+1=re;rw[←ea]at ef ⊢;clear U ea)
        have hq:=T.out.sm.size
        have ad:kb<w4.heap.size:=by
          rcases Nat.lt_or_ge kb w4.heap.size with q|q
          · exact q
          · have z:=T.out.hb;rw[b0 q]at z;cases z
        have fm:=S6.out.size;have j9:=ih.out;have ke:=bz.out;have dx:=ir.out;have a6:=a7 (show C+2<=w4.heap.size/\kb<w4.heap.size/\w4.heap.size<=w6.heap.size/\w6.heap.size<=db/\kc<w6.heap.size/\C+2<=kb from⟨n',ad,fm,e6,n',T.out.k0⟩);have cd:=a7 (S6.out.trans aa);have DK:=a7 (show Dk (C+2) db (.slice u1 u2 u3) (.slice v1 v2 v3) ⟨S,E,d.Log⟩ ub uc vb vc w7 from⟨ef,T.out.ou.same cd.out fun _=>id,T.out.ov.same cd.out fun _=>id,T.out.ne,fun p e=>(by have:=T.out.ou.lt p;omega),fun p e=>(by have:=T.out.ov.lt p;omega)⟩);have k9:=a7 (HW.out.mono (S':=fun x=>x=db) (ga.out.trans aa) fun b hb c=>(by have c:b=db:=c;omega));have ln:=a7 (HN.out.mono (S':=fun x=>x=db) (ga.out.trans aa) fun b hb c=>(by have c:b=db:=c;omega));have G7:=a7 (G4.out.mono (S':=fun x=>x=db) cd.out fun b hb c=>(by have c:b=db:=c;omega));have p0:=aa.cell id p0;have p1:=aa.cell id p1;have p2:=aa.cell id p2;have s0:=aa.cell id s0;have s1:=aa.cell id s1;have s2:=aa.cell id s2;have s3:=aa.cell id s3;have et:=a7 (S4.out.trans cd.out);have B7:=a7 ((cd.out.block (C+1) n' id).trans B1.out);clear ef aa e6 hq ad fm j9 ke dx S6 S5 HW HN ih ir ht;have hr:=HR.out;clear HR;cases cb
        rotate_left
        rw[if_neg x',if_neg x',if_pos x']at hr;obtain⟨nm,dw,ab⟩:=AO hr;obtain⟨eg,bb⟩:=AY ab;obtain rfl:=AX bb;have kf:¬ 9223372036854775807<6+nm.length:=Nat.not_lt.2 (of_decide_eq_true eg);have h9:=a7 dw;have G8:=a7 (gS G4.out cd.out);have bs:=a7 DK.out.sa;have bh:=a7 DK.out.sb;have ao:=a7 (show C+1<w7.heap.size from by have:=a6.out;have:=DK.out.lt;omega);have j:kb≠C+1:=by have:=a6.out;omega
        clear hr ab bb eg dw
        rotate_left
        rw[if_neg x',if_pos x']at hr;obtain⟨⟨eo,ek,ed⟩,hX,ab⟩:=AO hr;have EX:=a7 (xz hX DK.out (by have:=a6.out;have:=DK.out.lt;omega) k9.out ln.out G7.out);have ao:=a7 (show C+1<w7.heap.size from by have:=a6.out;have:=DK.out.lt;omega);have h7:=a7 (show ¬ C+1=db from by have:=a6.out;omega);have gb:=a7 ab;clear hr hX ab
        by_cases hk:ek=0
        · subst hk;obtain rfl:=AX (show ay (ed,eo,true)=ay y from gb.out)
          go_wp2_with (go_at_call 59;refine EX.out.mono ?_;rintro e w8 ⟨j8,j7,fx,h0,fu,hz,vo,bo,co,rfl,ae,aj,b4,be⟩;obtain⟨k1,k2,k3,rfl⟩:=aj.sa.slice;obtain⟨l1,l2,l3,rfl⟩:=aj.sb.slice;obtain⟨m1,m2,m3,rfl⟩:=b4.slice;have cl:=a7 ae;have cm:=a7 aj;have gf:=a7 b4;have gk:=a7 be;have B8:=a7 ((ae.block (C+1) ao.out h7.out).trans B7.out);obtain⟨g0,g1,g2,-⟩:=aj.cells;obtain⟨q0,q1,q2,f0,f1,f2⟩:=GF B8.out;clear ae aj b4 be)
          obtain⟨h1,h2⟩:=Re (.slice k1 k2 k3) (.slice l1 l2 l3) (.string ⟨ed.Log.toArray⟩) B8.out;refine b8 (Eb rfl _ _ (C+1) _ _ _ (by rfl) h1) rfl ?_;have hv:=a6.out;have hn:=e9.out;have o5:=DK.out.lt;exact⟨_,_,rfl,Cs (Cs et.out cl.out fun x hx c=>(by have c:x=db:=c;omega)) h2 fun x hx c=>(by have c:x=C+1:=c;omega),Rl.mono (N:=C+2) ⟨_,_,fx,h0,fu,hz,bo,co,rfl,cm.out.sa.same h2 fun p c=>(by have c:fx=C+1:=c;have:=cm.out.sa.ge p;omega),cm.out.sb.same h2 fun p c=>(by have c:fu=C+1:=c;have:=cm.out.sb.ge p;omega),(gf.out.mono n').same h2 fun p c=>(by have c:bo=C+1:=c;have:=gf.out.ge p;omega),cm.out.ne,fun p=>(gk.out p).1,fun p=>(gk.out p).2⟩ n'⟩
        have ab:=gb.out;rw[if_pos (by simpa using hk)]at ab;obtain⟨nm,dw,bb⟩:=AO ab;obtain⟨eg,ds⟩:=AY bb;obtain rfl:=AX ds;have kf:¬ 9223372036854775807<6+nm.length:=Nat.not_lt.2 (of_decide_eq_true eg);have h9:=a7 dw;have j:kb≠C+1:=by have:=a6.out;omega
        clear ab bb ds eg dw gb;have fs:¬ kb=db:=by have:=a6.out;omega
        go_wp2_with (go_at_call 59;refine EX.out.mono ?_;rintro e w8 ⟨j8,j7,fx,h0,fu,hz,vo,bo,co,rfl,ae,aj,b4,be⟩;obtain⟨k1,k2,k3,rfl⟩:=aj.sa.slice;obtain⟨l1,l2,l3,rfl⟩:=aj.sb.slice;obtain⟨m1,m2,m3,rfl⟩:=b4.slice;have cl:=a7 ae;have cm:=a7 aj;have gf:=a7 b4;have gk:=a7 be;have B8:=a7 ((ae.block (C+1) ao.out h7.out).trans B7.out);have r0:=ae.cell fs p0;have r1:=ae.cell fs p1;have r2:=ae.cell fs p2;clear ae aj b4 be)
        have hv:=a6.out;have hn:=e9.out;have S8:=a7 (show AD C' w w8 from Cs et.out cl.out fun x hx c=>(by have c:x=db:=c;have:=S4.out.size;omega));have G8:=a7 (gS HG.out S8.out);have bs:=a7 (DK.out.sa.same cl.out DK.out.na);have bh:=a7 (DK.out.sb.same cl.out DK.out.nb);have ao:=a7 (Nat.lt_of_lt_of_le ao.out cl.out.size);clear hv hn;obtain⟨w7,U⟩:∃x,x=w8:=⟨_,rfl⟩;rw[←U]at S8 B8 bs bh G8 ao r0 r1 r2 ⊢;clear U p0 p1 p2;have p0:=r0;have p1:=r1;have p2:=r2;have B7:=B8;have et:=S8;clear r0 r1 r2
        all_goals
          try go_wp2_with (fail)
          go_region_held3 (fun w'=>w'.cell? ⟨kb,0,a8⟩=ay (.slice u1 u2 u3)/\w'.cell? ⟨kb,1,a8⟩=ay (.slice v1 v2 v3)/\w'.cell? ⟨kb,2,a8⟩=ay (.string ⟨d.Log.toArray⟩)) (with_reducible first|exact I.out|exact⟨dr p0,dr p1,dr p2⟩|exact⟨l28.al I.out.1,l28.al I.out.2.1,l28.al I.out.2.2⟩|exact⟨l28.se (l28.se (l28.se I.out.1 j) j) j,l28.se (l28.se (l28.se I.out.2.1 j) j) j,l28.se (l28.se (l28.se I.out.2.2 j) j) j⟩|exact⟨l28.al (l28.se (l28.se (l28.se I.out.1 j) j) j),l28.al (l28.se (l28.se (l28.se I.out.2.1 j) j) j),l28.al (l28.se (l28.se (l28.se I.out.2.2 j) j) j)⟩|exact⟨l28.se (l28.se (l28.se (l28.al I.out.1) j) j) j,l28.se (l28.se (l28.se (l28.al I.out.2.1) j) j) j,l28.se (l28.se (l28.se (l28.al I.out.2.2) j) j) j⟩) (first
            |(go_at_call 60;refine(bi h9.out (gS G8.out (AD.drew _ _))).mono ?_;rintro e w9 ⟨rfl,dc⟩;have I:=a7 (show _/\_/\_ from⟨dc.cell id (dr p0),dc.cell id (dr p1),dc.cell id (dr p2)⟩);have S9:=a7 ((AD.drew C' w7).trans dc);obtain⟨q0,q1,q2,f0,f1,f2⟩:=GF ((S9.out.block (C+1) ao.out id).trans B7.out);obtain⟨q3,q4,q5,f3,f4,f5⟩:=GF (w:=w9.alloc (.cells #[.string (⟨#[101,114,114,111,114,32]⟩++⟨nm.toArray⟩)] 9)) (((S9.out.trans (AD.alloc C' w9 _)).block (C+1) ao.out id).trans B7.out);clear dc))
          all_goals
            go_wp2
            have hh:=(S9.out.block (C+1) ao.out id).trans B7.out;have o4:=S9.out.size;have o7:=ao.out;have o6:=e9.out;first
            | (obtain⟨b7,au⟩:∃x,x=w9.alloc (.cells #[.string (⟨#[101,114,114,111,114,32]⟩++⟨nm.toArray⟩)] 9):=⟨_,rfl⟩
               rw[←au];have ax:AD C' w9 b7:=by rw[au];exact AD.alloc _ _ _
               have e2:b7.heap[w9.heap.size]? = ay (.cells #[.string (⟨#[101,114,114,111,114,32]⟩++⟨nm.toArray⟩)] 9 (0,0)):=by rw[au];exact az w9 _
               obtain⟨h1,h2⟩:=Re (.slice u1 u2 u3) (.slice v1 v2 v3) (.string ⟨d.Log.toArray⟩) ((ax.block (C+1) n' id).trans hh);refine b8 (Eb rfl _ _ (C+1) _ _ _ (by rfl) h1) rfl ?_;exact⟨_,_,rfl,Cs ((et.out.trans S9.out).trans ax) h2 fun x hx c=>(by have c:x=C+1:=c;omega),Rl.mono (N:=C+2) ⟨_,_,ub,uc,vb,vc,w9.heap.size,1,rfl,((bs.out.same S9.out fun _=>id).same ax fun _=>id).same h2 fun p c=>(by have c:ub=C+1:=c;have:=bs.out.ge p;omega),((bh.out.same S9.out fun _=>id).same ax fun _=>id).same h2 fun p c=>(by have c:vb=C+1:=c;have:=bh.out.ge p;omega),(ZF n' e2).same h2 fun p c=>(by have c:w9.heap.size=C+1:=c;omega),T.out.ne,fun _ p=>(by have:=bs.out.lt p;omega),fun _ p=>(by have:=bh.out.lt p;omega)⟩ n'⟩)
            | (obtain⟨h1,h2⟩:=Re (.slice u1 u2 u3) (.slice v1 v2 v3) (.string ⟨d.Log.toArray⟩) hh
               obtain⟨b7,au⟩:∃x,x=((w9.setCell ⟨C+1,0,a8⟩ (.slice u1 u2 u3)).setCell ⟨C+1,1,a8⟩ (.slice v1 v2 v3)).setCell ⟨C+1,2,a8⟩ (.string ⟨d.Log.toArray⟩):=⟨_,rfl⟩;have kp:b7.heap.size=w9.heap.size:=by rw[au];simp[World.setCell]
               rw[←au]at h1 h2 ⊢;have e2:=az b7 (.cells #[.string (⟨#[101,114,114,111,114,32]⟩++⟨nm.toArray⟩)] 9 (0,0));rw[kp]at e2;have ax:=AD.alloc C' b7 (.cells #[.string (⟨#[101,114,114,111,114,32]⟩++⟨nm.toArray⟩)] 9);refine b8 (Eb rfl _ _ (C+1) _ _ _ (by rfl) ((ax.block (C+1) n' id).trans h1)) rfl ?_;exact⟨_,_,rfl,(Cs (et.out.trans S9.out) h2 fun x hx c=>(by have c:x=C+1:=c;omega)).trans ax,Rl.mono (N:=C+2) ⟨_,_,ub,uc,vb,vc,w9.heap.size,1,rfl,((bs.out.same S9.out fun _=>id).same h2 fun p c=>(by have c:ub=C+1:=c;have:=bs.out.ge p;omega)).same ax fun _=>id,((bh.out.same S9.out fun _=>id).same h2 fun p c=>(by have c:vb=C+1:=c;have:=bh.out.ge p;omega)).same ax fun _=>id,ZF n' e2,T.out.ne,fun _ p=>(by have:=bs.out.lt p;omega),fun _ p=>(by have:=bh.out.lt p;omega)⟩ n'⟩)
end Go.Proofs.YtegmpdmpgmpiaaaGreatDoor.dsk
