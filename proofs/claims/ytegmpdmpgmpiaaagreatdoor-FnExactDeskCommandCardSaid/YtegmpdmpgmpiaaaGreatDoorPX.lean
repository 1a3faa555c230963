/- Lemmas. No condition. -/
import Derived.Test.YtegmpdmpgmpiaaaGreatDoorPU
import Derived.Test.YtegmpdmpgmpiaaaGreatDoorPV
import Derived.Test.YtegmpdmpgmpiaaaGreatDoorPH
open Array renaming getElem?_eq_none->aj
open Go renaming heap_alloc_new->ao,World->be,maxLen->bI
open Go.Lib renaming hid->ad
set_option linter.defProp false
set_option linter.unusedSimpArgs false
set_option linter.unusedVariables false
set_option maxRecDepth 100000
namespace Go.Proofs.YtegmpdmpgmpiaaaGreatDoor.dsk
open Go Go.RowKit plot rdc
set_option maxHeartbeats 8000000
variable{w:be}
def up{w':be}{v:Value}{a:AV}(h:VR C' w v a)(s:AD (fun x=>w.heap.size<=x) w w'):VR C' w' v a :=
 (h.mono (S':=fun x=>w.heap.size<=x) (AD.refl _ _) fun b hb c=>(by have c:w.heap.size<=b:=c;omega)).mono s fun _ _ c=>c.elim
variable{j:Value}{d:Ad}
def Uh{C:Value}(h:VR C' w (.agg #[C,j,.string ⟨d.Log.toArray⟩]) (BC d)):VR C' w C (.sl 5 (List.map AN d.Stars))/\VR C' w j (.sl 5 (List.map AC d.Estimates)):=by
 obtain⟨a,b,e,I,h2⟩:=Sb (d:=d) h;injection e with e
 injection e with e
 injection e with R e
 injection e with J e
 subst R J;exact⟨I,h2⟩
def Rl.form{N:Nat}{vo:Value}{o:List L8}(h:Rl N w j vo d o):∃a b c a' J C a2 I c2,j = .agg #[.slice a b c,.slice a' J C,.string ⟨d.Log.toArray⟩]/\vo = .slice a2 I c2:=by
 obtain⟨va,vb,ba,ca,bb,cb,bo,co,rfl,U,h2,R,-⟩:=h;obtain⟨a,b,c,rfl⟩:=U.slice;obtain⟨a',J,C,rfl⟩:=h2.slice;obtain⟨a2,I,c2,rfl⟩:=R.slice;exact⟨_,_,_,_,_,_,_,_,_,rfl,rfl⟩
structure St(w w3:be)(N4 M4 N5 M5 b9 b10:Nat)(A0 A6 A9 A10:Array Value)(vx vg vo:Value)(dx dg:Ad)(og:List L8)(wi:be):Prop where
 l0:wi.heap[w.heap.size]? = some (.cells A0 27 (0,0))
 l6:wi.heap[w3.heap.size]? = some (.cells A6 32 (0,0))
 l9:wi.heap[b9]? = some (.cells A9 32 (0,0))
 l10:wi.heap[b10]? = some (.cells A10 32 (0,0))
 sb:AD (fun x=>w.heap.size<=x) w wi
 sc:AD (fun x=>w3.heap.size<=x) w3 wi
 gx:Gm N4 M4 wi vx (.slice none 0 0) dx []
 gg:Gm N5 M5 wi vg vo dg og
 o:w.heap.size<w3.heap.size/\w3.heap.size<N4/\N4<=M4/\M4<=b9/\b9<N5/\N5<=M5/\M5<=b10
 oo:b10<wi.heap.size
section
variable {w w3 wi wj:be}{N4 M4 N5 M5 b9 b10:Nat}{A0 A6 A9 A10:Array Value}{vx vg vo:Value}{dx dx' dg dg':Ad}{og og':List L8}
def St.still(h:St w w3 N4 M4 N5 M5 b9 b10 A0 A6 A9 A10 vx vg vo dx dg og wi)(hs:AD C' wi wj):St w w3 N4 M4 N5 M5 b9 b10 A0 A6 A9 A10 vx vg vo dx dg og wj:=by
 obtain⟨l0,l6,l9,l10,sb,sc,gx,gg,o,oo⟩:=h;exact⟨(hs.block _ n' id).trans l0,(hs.block _ n' id).trans l6,(hs.block _ n' id).trans l9,(hs.block _ n' id).trans l10,sb.trans (hs.mono fun _ _ c=>c.elim),sc.trans (hs.mono fun _ _ c=>c.elim),gx.away hs fun _ c=>c.elim,gg.away hs fun _ c=>c.elim,o,by have:=hs.size;omega⟩
def St.mx(h:St w w3 N4 M4 N5 M5 b9 b10 A0 A6 A9 A10 vx vg vo dx dg og wi)(hs:AD (fun x=>N4<=x/\x<M4) wi wj)(g:Gm N4 M4 wj vx (.slice none 0 0) dx' []):St w w3 N4 M4 N5 M5 b9 b10 A0 A6 A9 A10 vx vg vo dx' dg og wj:=by
 obtain⟨l0,l6,l9,l10,sb,sc,gx,gg,o,oo⟩:=h;exact⟨(hs.block _ n' (by show ¬ (_/\_);omega)).trans l0,(hs.block _ n' (by show ¬ (_/\_);omega)).trans l6,(hs.block _ n' (by show ¬ (_/\_);omega)).trans l9,(hs.block _ n' (by show ¬ (_/\_);omega)).trans l10,sb.trans (hs.mono fun b _ c=>(by have c:N4<=b/\b<M4:=c;show _<=b;omega)),sc.trans (hs.mono fun b _ c=>(by have c:N4<=b/\b<M4:=c;show _<=b;omega)),g,gg.away hs fun b c=>(by have c:N4<=b/\b<M4:=c;omega),o,by have:=hs.size;omega⟩
def St.mg(h:St w w3 N4 M4 N5 M5 b9 b10 A0 A6 A9 A10 vx vg vo dx dg og wi)(hs:AD (fun x=>N5<=x/\x<M5) wi wj)(g:Gm N5 M5 wj vg vo dg' og'):St w w3 N4 M4 N5 M5 b9 b10 A0 A6 A9 A10 vx vg vo dx dg' og' wj:=by
 obtain⟨l0,l6,l9,l10,sb,sc,gx,gg,o,oo⟩:=h;exact⟨(hs.block _ n' (by show ¬ (_/\_);omega)).trans l0,(hs.block _ n' (by show ¬ (_/\_);omega)).trans l6,(hs.block _ n' (by show ¬ (_/\_);omega)).trans l9,(hs.block _ n' (by show ¬ (_/\_);omega)).trans l10,sb.trans (hs.mono fun b _ c=>(by have c:N5<=b/\b<M5:=c;show _<=b;omega)),sc.trans (hs.mono fun b _ c=>(by have c:N5<=b/\b<M5:=c;show _<=b;omega)),gx.away hs fun b c=>(by have c:N5<=b/\b<M5:=c;omega),g,o,by have:=hs.size;omega⟩
def St.gt(h:St w w3 N4 M4 N5 M5 b9 b10 A0 A6 A9 A10 vx vg vo dx dg og wi)(g:GT C' w):GT C' wi:=ue g h.sb fun _ c=>c.elim
end
variable{D:Ad}{line:L8}{w:be}
attribute [local irreducible] Calls in
def AAo{va vb:Value}{z:Int}{W:Ad×List L8×Int}{r1 r2 k1 k2 k3:Int}{T1 S':List Star}{T2 E':List AA}{O':List L8}(hl:¬ 1048576<(line.length:Int))(hz:Ji D 1048576=some z)(nm:¬ z<0)(hf:AKF D line W r1 r2 k1 k2 k3 T1 S' T2 E' O')(l1:D.Stars.length<=1048576)(l2:D.Estimates.length<=1048576)
  (ha:VR C' w va (.sl 5 (List.map AN D.Stars))) (hb:VR C' w vb (.sl 5 (List.map AC D.Estimates))) (hg:GT C' w) :
  Calls Tryz.prog 4 #[.agg #[va,vb,.string ⟨D.Log.toArray⟩],.string ⟨line.toArray⟩] w fun e w'=>e = .returned (.bool true)/\AD C' w w':=by
 obtain⟨a1,a2,a3,rfl⟩:=l28.sl_of ha;obtain⟨b1,b2,b3,rfl⟩:=l28.sl_of hb;have s0:=AD.alloc C' w (lC (.slice a1 a2 a3) (.slice b1 b2 b3) D.Log);have h0:=ao w (lC (.slice a1 a2 a3) (.slice b1 b2 b3) D.Log);have j:=ad hf;have HA:=ad ha;have HB:=ad hb;have I:=ad hg;have HZ:=ad hz;have S0:=ad s0;have L0:=ad h0;have ga:=ad (And.intro l1 l2);have nt:=hf.p2;have ns:=hf.p3;have nn:=hf.r0;clear hf ha hb hg hz s0 h0 l1 l2
 go_enter Tryz.func4,Tryz.ntmps4
 go_wp2_with (fail)
 refine(mr HZ.out (PA (HA.out.mono S0.out fun _ _ c=>c) (HB.out.mono S0.out fun _ _ c=>c)) (gS I.out S0.out)).mono ?_;rintro e w1 ⟨rfl,eo⟩;have S1:=ad (S0.out.trans eo);have L1:=ad ((eo.block w.heap.size p' id).trans L0.out);obtain⟨p0,p1,p2⟩:=II L1.out;clear eo
 go_wp2_with (fail)
 refine(Ux j.out.tS j.out.tE (HA.out.mono S1.out fun _ _ c=>c) (HB.out.mono S1.out fun _ _ c=>c) (gS I.out S1.out)).mono ?_;rintro e w2 ⟨vt,rfl,en,ht⟩;have S2:=ad (S1.out.trans en);have L2:=ad ((en.block w.heap.size (by have:=S0.out.size;have:=S1.out.size;have:=L1.out;rcases Nat.lt_or_ge w.heap.size w1.heap.size with q|q;exact q;rw[aj q]at this;cases this) id).trans L1.out);obtain⟨hv,hr,hq,hp,ho,hn,-,-,-,rfl,-⟩:=ht.form;obtain⟨t1,t2⟩:=Uh ht.vd;have TT:=ad (And.intro t1 t2);clear en ht t1 t2 p0 p1 p2
 go_wp2_with (fail)
 refine(AKS j.out.sp TT.out.1 TT.out.2 (gS I.out S2.out) ga.out.1 ga.out.2).mono ?_;rintro e w3 ⟨vd,vo,rfl,ba,fa,ek⟩;obtain⟨l7,l5,rfl,f1,f2⟩:=Sb (d:=W.1) fa;obtain⟨e1,e2,e3,rfl⟩:=l28.sl_of f1;obtain⟨g1,g2,g3,rfl⟩:=l28.sl_of f2;obtain⟨n1,n2,n3,rfl⟩:=l28.sl_of ek;have S3:=ad (S2.out.trans ba);have WD:=ad (PA f1 f2);have WO:=ad ek;have lt:w.heap.size<w3.heap.size:=by have a:=S0.out.size;have b:=S1.out.size;have c:=L2.out;have d:=ba.size;rcases Nat.lt_or_ge w.heap.size w2.heap.size with q|q;omega;rw[aj q]at c;cases c
 have L3:=ad (((ba.trans (AD.alloc C' w3 (dC (.slice e1 e2 e3) (.slice g1 g2 g3) W.1.Log))).block w.heap.size (by have c:=L2.out;rcases Nat.lt_or_ge w.heap.size w2.heap.size with q|q;exact q;rw[aj q]at c;cases c) id).trans L2.out);have L6:=ad (ao w3 (dC (.slice e1 e2 e3) (.slice g1 g2 g3) W.1.Log));have aa:=ad (S3.out.trans (AD.alloc C' w3 (dC (.slice e1 e2 e3) (.slice g1 g2 g3) W.1.Log)));have fu:(w3.alloc (dC (.slice e1 e2 e3) (.slice g1 g2 g3) W.1.Log)).heap.size=w3.heap.size+1:=p'
 have ih:=ad lt;have ew:=ad fu;obtain⟨p0,p1,p2⟩:=II L3.out;clear fa ek f1 f2 ba lt fu L1 L2 S1 S2 TT
 go_wp2_with (fail)
 obtain⟨a8,au⟩:∃x,x=w3.alloc (dC (.slice e1 e2 e3) (.slice g1 g2 g3) W.1.Log):=⟨_,rfl⟩;rw[←au]at L3 L6 aa ew ⊢;have fy:=ad (show AD C' w3 a8 by rw[au];exact AD.alloc _ _ _);clear p0 p1 p2 au;refine(Ux j.out.tS j.out.tE (HA.out.mono aa.out fun _ _ c=>c) (HB.out.mono aa.out fun _ _ c=>c) (gS I.out aa.out)).mono ?_;rintro e w4 ⟨vx,rfl,fp,hx⟩;obtain⟨x1,x2,x3,y1,y2,y3,-,-,-,rfl,-⟩:=hx.form;have S4:=ad fp;have X4:=ad hx;have fs:(w4.alloc (dC (.slice x1 x2 x3) (.slice y1 y2 y3) D.Log)).heap.size=w4.heap.size+1:=p'
 have a7:=ad fs;clear fp hx fs
 go_wp2_with (fail)
 have ab:=ad (AD.alloc C' w4 (dC (.slice x1 x2 x3) (.slice y1 y2 y3) D.Log));have L9:=ad (ao w4 (dC (.slice x1 x2 x3) (.slice y1 y2 y3) D.Log));obtain⟨e9,bo⟩:∃x,x=w4.alloc (dC (.slice x1 x2 x3) (.slice y1 y2 y3) D.Log):=⟨_,rfl⟩;rw[←bo]at ab L9 a7 ⊢;clear bo;obtain⟨t1,t2⟩:=Uh (X4.out.still ab.out).vd;refine(ABD j.out.im t1 t2 (gS I.out ((aa.out.trans S4.out).trans ab.out))).mono ?_;clear t1 t2;rintro e w5 ⟨vg,vq,rfl,ax,C⟩;obtain⟨i1,i2,i3,j1,j2,j3,m1,m2,m3,rfl,rfl⟩:=C.form;have h2:(w5.alloc (dC (.slice i1 i2 i3) (.slice j1 j2 j3) W.1.Log)).heap.size=w5.heap.size+1:=p'
 have ae:AD C' a8 (w5.alloc (dC (.slice i1 i2 i3) (.slice j1 j2 j3) W.1.Log)):=((S4.out.trans ab.out).trans ax).trans (AD.alloc _ _ _);have z4:=S4.out.size;have z5:=ax.size;have z6:=ew.out;have z7:=a7.out;have z8:=ih.out
 have ST:=ad (show St w w3 a8.heap.size w4.heap.size e9.heap.size w5.heap.size w4.heap.size w5.heap.size #[.slice a1 a2 a3,.slice b1 b2 b3,.string ⟨D.Log.toArray⟩] #[.slice e1 e2 e3,.slice g1 g2 g3,.string ⟨W.1.Log.toArray⟩] #[.slice x1 x2 x3,.slice y1 y2 y3,.string ⟨D.Log.toArray⟩] #[.slice i1 i2 i3,.slice j1 j2 j3,.string ⟨W.1.Log.toArray⟩] (.agg #[.slice x1 x2 x3,.slice y1 y2 y3,.string ⟨D.Log.toArray⟩]) (.agg #[.slice i1 i2 i3,.slice j1 j2 j3,.string ⟨W.1.Log.toArray⟩]) (.slice m1 m2 m3) D W.1 W.2.1 (w5.alloc (dC (.slice i1 i2 i3) (.slice j1 j2 j3) W.1.Log))from
  ⟨(ae.block _ n' id).trans L3.out,(ae.block _ n' id).trans L6.out,((ax.trans (AD.alloc C' w5 _)).block _ n' id).trans L9.out,ao w5 (dC (.slice i1 i2 i3) (.slice j1 j2 j3) W.1.Log),(aa.out.trans ae).mono fun _ _ c=>c.elim,(fy.out.trans ae).mono fun _ _ c=>c.elim,X4.out.gm.away ((ab.out.trans ax).trans (AD.alloc C' w5 _)) fun _ c=>c.elim,C.gm.away (AD.alloc C' w5 _) fun _ c=>c.elim,⟨n',n',n',n',n',n',n'⟩,n'⟩)
 obtain⟨c0,c1,c2⟩:=II ST.out.l6;clear ax C h2 ae z4 z5 z6 z7 z8
 go_wp2_with (fail)
 obtain⟨k4,bh⟩:∃x,x=w5.alloc (dC (.slice i1 i2 i3) (.slice j1 j2 j3) W.1.Log):=⟨_,rfl⟩;rw[←bh]at ST ⊢;clear bh c0 c1 c2 L3 L6 aa ew fy S4 X4 a7 ab L9;obtain⟨N4,a6⟩:∃x,x=a8.heap.size:=⟨_,rfl⟩;obtain⟨M4,eu⟩:∃x,x=w4.heap.size:=⟨_,rfl⟩;obtain⟨N5,az⟩:∃x,x=e9.heap.size:=⟨_,rfl⟩;obtain⟨M5,et⟩:∃x,x=w5.heap.size:=⟨_,rfl⟩;rw[←a6,←eu,←az,←et]at ST;rw[←eu,←et];clear a6 eu az et;refine(WH j.out.eW ST.out.gg.got.vd (up WD.out ST.out.sc) (ST.out.gt I.out)).mono ?_;rintro e w6 ⟨rfl,fm⟩;have ST:=ad (ST.out.still fm);clear fm
 go_wp2_with (fail)
 refine(bT j.out.eO ST.out.gg.got.vo (up WO.out ST.out.sc) (ST.out.gt I.out)).mono ?_;rintro e w7 ⟨rfl,fi⟩;have ST:=ad (ST.out.still fi);clear fi;obtain⟨c0,c1,c2⟩:=II ST.out.l9;obtain⟨p0,p1,p2⟩:=II ST.out.l0
 go_wp2_with (fail)
 go_region_held3 (fun w'=>w'.cell? ⟨M4,0,none⟩=some (.slice x1 x2 x3)/\w'.cell? ⟨M4,1,none⟩=some (.slice y1 y2 y3)/\w'.cell? ⟨M4,2,none⟩=some (.string ⟨D.Log.toArray⟩)/\w'.cell? ⟨w.heap.size,0,none⟩=some (.slice a1 a2 a3)/\w'.cell? ⟨w.heap.size,1,none⟩=some (.slice b1 b2 b3)/\w'.cell? ⟨w.heap.size,2,none⟩=some (.string ⟨D.Log.toArray⟩)) (with_reducible first|exact HX.out|exact⟨dr c0,dr c1,dr c2,dr p0,dr p1,dr p2⟩) (first
  |(go_at_call 9;refine(Ux j.out.tS j.out.tE ((up HA.out ST.out.sb).mono (AD.drew _ _) fun _ _ c=>c) ((up HB.out ST.out.sb).mono (AD.drew _ _) fun _ _ c=>c) (gS (ST.out.gt I.out) (AD.drew _ _))).mono ?_;rintro e w8 ⟨vy,rfl,R,hy⟩;obtain⟨hv,hr,hq,hp,ho,hn,-,-,-,rfl,-⟩:=hy.form;have HX:=ad (show _/\_/\_/\_/\_/\_ from⟨R.cell id (dr c0),R.cell id (dr c1),R.cell id (dr c2),R.cell id (dr p0),R.cell id (dr p1),R.cell id (dr p2)⟩);have ST:=ad (ST.out.still ((AD.drew _ _).trans R));have HY:=ad hy.vd;clear R hy)
  |(go_at_call 11;refine(WH j.out.eD ST.out.gx.got.vd HY.out (ST.out.gt I.out)).mono ?_;rintro e w9 ⟨rfl,J⟩;have HX:=ad (show _/\_/\_/\_/\_/\_ from⟨J.cell id HX.out.1,J.cell id HX.out.2.1,J.cell id HX.out.2.2.1,J.cell id HX.out.2.2.2.1,J.cell id HX.out.2.2.2.2.1,J.cell id HX.out.2.2.2.2.2⟩);have ST:=ad (ST.out.still J);clear J))
 clear c0 c1 c2 p0 p1 p2 HX;obtain⟨c0,c1,c2⟩:=II ST.out.l9
 go_wp2_with (fail)
 have a6:w.heap.size<=N4:=by have:=ST.out.o;omega
 have az:w.heap.size<=N5:=by have:=ST.out.o;omega
 have a7:=ad a6;have gb:=ad az;clear a6 az c0 c1 c2;refine(aO ST.out.gx I.out ST.out.sb a7.out j.out.m1 j.out.m2).mono ?_;rintro e l3 ⟨rfl,cf,cn⟩;have ST:=ad (ST.out.mx cf cn);clear cf cn;obtain⟨c0,c1,c2⟩:=II ST.out.l10;obtain⟨p0,p1,p2⟩:=II ST.out.l6
 go_wp2_with (fail)
 clear c0 c1 c2 p0 p1 p2;refine(WH j.out.eW ST.out.gg.got.vd (up WD.out ST.out.sc) (ST.out.gt I.out)).mono ?_;rintro e lz ⟨rfl,cd⟩;have ST:=ad (ST.out.still cd);clear cd
 go_wp2_with (fail)
 refine(bT j.out.eO ST.out.gg.got.vo (up WO.out ST.out.sc) (ST.out.gt I.out)).mono ?_;rintro e lv ⟨rfl,cc⟩;have ST:=ad (ST.out.still cc);clear cc;obtain⟨c0,c1,c2⟩:=II ST.out.l10
 go_wp2_with (fail)
 clear c0 c1 c2;refine(aO ST.out.gg I.out ST.out.sb gb.out j.out.n1 j.out.n2).mono ?_;rintro e lu ⟨rfl,cb,cm⟩;have ST:=ad (ST.out.mg cb cm);clear cb cm
 go_wp2_with (fail)
 refine(xS ST.out.gg I.out ST.out.sb gb.out j.out.n3).mono ?_;rintro e ln ⟨rfl,ca,cl⟩;have ST:=ad (ST.out.mg ca cl);clear ca cl;obtain⟨c0,c1,c2⟩:=II ST.out.l10
 go_wp2_with (fail)
 clear c0 c1 c2;refine(bB j.out.q2 ST.out.gg.got.vd (ST.out.gt I.out)).mono ?_;rintro e lg ⟨rfl,b8⟩;have ST:=ad (ST.out.still b8);clear b8
 go_wp2_with (fail)
 refine(bA j.out.q3 ST.out.gg.got.vo (ST.out.gt I.out)).mono ?_;rintro e lb ⟨rfl,b7⟩;have ST:=ad (ST.out.still b7);clear b7;obtain⟨p0,p1,p2⟩:=II ST.out.l0
 go_wp2_with (fail)
 clear p0 p1 p2;refine(Ux j.out.tS j.out.tE (up HA.out ST.out.sb) (up HB.out ST.out.sb) (ST.out.gt I.out)).mono ?_;rintro e k9 ⟨vz,rfl,b6,hy⟩;obtain⟨j7,j6,j5,j4,j0,jn,-,-,-,rfl,-⟩:=hy.form;have ST:=ad (ST.out.still b6);obtain⟨t1,t2⟩:=Uh hy.vd;have TT:=ad (And.intro t1 t2);clear b6 hy t1 t2
 go_wp2_with (fail)
 refine(ABD j.out.im TT.out.1 TT.out.2 (ST.out.gt I.out)).mono ?_;rintro e c8 ⟨vh,vk,rfl,b5,C⟩;obtain⟨eg,ef,ed,dw,df,db,mu,mn,ml,rfl,rfl⟩:=C.form;have ST:=ad (ST.out.still (b5.trans (AD.alloc C' c8 (dC (.slice eg ef ed) (.slice dw df db) W.1.Log))));have HK:=ad (C.still (AD.alloc C' c8 (dC (.slice eg ef ed) (.slice dw df db) W.1.Log)));obtain⟨c0,c1,c2⟩:=II ST.out.l6;clear b5 C
 go_wp2_with (fail)
 obtain⟨ir,bs⟩:∃x,x=c8.alloc (dC (.slice eg ef ed) (.slice dw df db) W.1.Log):=⟨_,rfl⟩;rw[←bs]at ST HK ⊢;clear bs c0 c1 c2;refine(WH j.out.eW HK.out.vd (up WD.out ST.out.sc) (ST.out.gt I.out)).mono ?_;rintro e k8 ⟨rfl,ay⟩;have ST:=ad (ST.out.still ay);have HK:=ad (HK.out.still ay);clear ay
 go_wp2_with (fail)
 refine(bT j.out.eO HK.out.vo (up WO.out ST.out.sc) (ST.out.gt I.out)).mono ?_;rintro e k7 ⟨rfl,b4⟩;have ST:=ad (ST.out.still b4);clear b4 HK;obtain⟨c0,c1,c2⟩:=II ST.out.l10
 go_wp2_with (fail)
 clear c0 c1 c2;refine(bB j.out.q2 ST.out.gg.got.vd (ST.out.gt I.out)).mono ?_;rintro e k6 ⟨rfl,b0⟩;have ST:=ad (ST.out.still b0);clear b0
 go_wp2_with (fail)
 refine(bA j.out.q3 ST.out.gg.got.vo (ST.out.gt I.out)).mono ?_;rintro e k5 ⟨rfl,bz⟩;have ST:=ad (ST.out.still bz);clear bz
 go_wp2_with (fail)
 go_ret
 exact⟨rfl,Cs (AD.refl C' w) ST.out.sb fun x hx c=>(by have c:w.heap.size<=x:=c;omega)⟩
attribute [local irreducible] Calls in
def law_calls{v0 v1:Value}(h0:VR C' w v0 (BC D))(h1:VR C' w v1 (.str line))
  (wf:(D.Stars.length<=bI/\∀s∈D.Stars,s.Name.length<=bI/\QY s.Ascend/\QY s.Decl/\QY s.Bright/\QY s.Faint)/\(D.Estimates.length<=bI/\∀s∈D.Estimates,QY s.Time/\s.Star.length<=bI/\s.Observer.length<=bI/\QY s.Mag/\True)/\D.Log.length<=bI) (J:GT C' w) :
  Calls Tryz.prog 4 #[v0,v1] w fun e w'=>e = .returned (.bool true)/\AD C' w w':=by
 obtain⟨va,vb,rfl,I,hb⟩:=Sb (d:=D) h0;cases h1
 obtain⟨a1,a2,a3,rfl⟩:=l28.sl_of I;obtain⟨b1,b2,b3,rfl⟩:=l28.sl_of hb
 by_cases hl:1048576<(line.length:Int)
 .clear I hb h0 wf J
  go_enter Tryz.func4,Tryz.ntmps4
  go_wp2_with (fail)
  go_ret
  exact⟨rfl,AD.alloc _ _ _⟩
 .obtain⟨z,R,hq⟩:=wc (x:=D) (n:=1048576) n' n' wf.1.1 (fun s hs=>(wf.1.2 s hs).1) wf.2.1.1 (fun s hs=>⟨(wf.2.1.2 s hs).2.1,(wf.2.1.2 s hs).2.2.1⟩) wf.2.2
  by_cases C:z<0
  .have j:=AD.alloc C' w (lC (.slice a1 a2 a3) (.slice b1 b2 b3) D.Log);have HZ:=ad R;have S0:=ad j;have V0:=ad (PA (d:=D) (I.mono j fun _ _ c=>c) (hb.mono j fun _ _ c=>c));have G0:=ad (gS J j);clear I hb h0 wf J R hq j
   go_enter Tryz.func4,Tryz.ntmps4
   go_wp2_with (fail)
   refine(mr HZ.out V0.out G0.out).mono ?_;rintro e w1 ⟨rfl,U⟩
   go_wp2_with (fail)
   go_ret
   exact⟨rfl,S0.out.trans U⟩
  .obtain⟨-,q1,q2,q3⟩:=hq C;obtain⟨W,r1,r2,k1,k2,k3,T1,S',T2,E',O',hf⟩:=APR q1 q2 q3 (line:=line) n';exact AAo hl R C hf q1 q2 I hb J
end Go.Proofs.YtegmpdmpgmpiaaaGreatDoor.dsk
