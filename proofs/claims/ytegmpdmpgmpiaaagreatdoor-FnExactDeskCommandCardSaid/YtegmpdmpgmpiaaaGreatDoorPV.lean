/- Lemmas. No condition. -/
import Derived.Test.YtegmpdmpgmpiaaaGreatDoorPT
open And renaming intro->ax
open Go renaming heap_setCell_same->au,bodyPost_ret->a',World->b0,Calls->b4,heap_alloc2_old->b5,heap_alloc2_new->b6
open Go.Lib renaming hid->ae
open List renaming map->ao
set_option linter.defProp false
set_option linter.unusedSimpArgs false
set_option linter.unusedVariables false
set_option maxRecDepth 100000
namespace Go.Proofs.YtegmpdmpgmpiaaaGreatDoor.dsk
open Go Go.RowKit plot rdc
set_option maxHeartbeats 8000000
variable{d:Ad}{va vb:Value}{w:b0}
attribute [local irreducible] b4 in
def ABD{line:L8}{W:Ad×List L8×Int}(hr:Vz d line=some W)(ha:VR C' w va (.sl 5 (ao AN d.Stars)))(hb:VR C' w vb (.sl 5 (ao AC d.Estimates)))(hg:GT C' w):
  b4 Tryz.prog 10 #[.agg #[va,vb,.string ⟨d.Log.toArray⟩],.string ⟨line.toArray⟩] w fun e w'=>∃vd vo,e = .returned (.tuple #[vd,vo,.int .i64 W.2.2])/\AD C' w w'/\Rl w.heap.size w' vd vo W.1 W.2.1:=by
 obtain⟨ok,ab,U⟩:=AO hr;obtain⟨a1,a2,a3,rfl⟩:=l28.sl_of ha;obtain⟨b1,b2,b3,rfl⟩:=l28.sl_of hb;have s1:=(AD.alloc C' w (dC (.slice a1 a2 a3) (.slice b1 b2 b3) d.Log)).trans (AD.alloc C' (w.alloc (dC (.slice a1 a2 a3) (.slice b1 b2 b3) d.Log)) zC);have h0:=b5 w (dC (.slice a1 a2 a3) (.slice b1 b2 b3) d.Log) zC;have I:=b6 w (dC (.slice a1 a2 a3) (.slice b1 b2 b3) d.Log) zC;have be:=ae ab;have HR:=ae U;have VA:=ae (ha.mono s1 fun _ _ c=>c);have VB:=ae (hb.mono s1 fun _ _ c=>c);have GG:=ae (gS hg s1);have S1:=ae s1;have Z0:=ae h0;have Z1:=ae I;clear ab hr U ha hb hg s1 h0 I
 have HB:=ae (show(ok=false/\W=(⟨[],[],[]⟩,[],1))\/∃z,ok=true/\FF d line=some z/\((z.2.2=false/\W=(⟨[],[],[]⟩,[],7))\/(z.2.2=true/\W=(z.1,z.2.1,0))) by
  have hr:=HR.out;cases ok
  .exact .inl ⟨rfl,(AX hr).symm⟩
  .obtain⟨z,hz,h⟩:=AO (show(FF d line).bind _=some W from hr);refine .inr ⟨z,rfl,hz,?_⟩;obtain⟨zd,zo,zk⟩:=z;cases zk
   .exact .inl ⟨rfl,(AX h).symm⟩
   .exact .inr ⟨rfl,(AX h).symm⟩)
 clear HR;rcases HB.out with⟨rfl,rfl⟩|⟨⟨zd,zo,zk⟩,rfl,hz,⟨hk,rfl⟩|⟨hk,rfl⟩⟩
 all_goals
  try(have HZ:=ae hz;clear hz;simp only at hk;subst hk)
  clear HB
  go_enter Tryz.func10,Tryz.ntmps10
  go_wp2_with (first
   |(go_at_call 35;refine(js be.out (PA VA.out VB.out) GG.out).mono ?_;rintro e w2 ⟨rfl,C⟩;have J:=ae C;have Z2:=ae ((C.block (w.heap.size+1) p' id).trans Z1.out);obtain⟨p0,p1,p2⟩:=II ((C.block w.heap.size t' id).trans Z0.out);obtain⟨q0,q1,q2,f0,f1,f2⟩:=GF Z2.out;clear C)
   |(go_at_call 26;refine(zO HZ.out (VA.out.mono J.out fun _ _ c=>c) (VB.out.mono J.out fun _ _ c=>c) (gS GG.out J.out)).mono ?_;rintro e w3 ⟨vd,vo,rfl,R,dx,dw,ba,ca,bb,cb,bo,co,rfl,o1,o2,o3,o4⟩;obtain⟨k1,k2,k3,rfl⟩:=o1.slice;obtain⟨l1,l2,l3,rfl⟩:=o2.slice;obtain⟨m1,m2,m3,rfl⟩:=o3.slice;have S3:=ae R;have O1:=ae o1;have O2:=ae o2;have O3:=ae o3;have O4:=ae o4;have Z3:=ae (((R.trans (AD.alloc C' w3 (dC (.slice k1 k2 k3) (.slice l1 l2 l3) zd.Log))).block (w.heap.size+1) (by have:=J.out.size;simp at this;omega) id).trans Z2.out);obtain⟨q0,q1,q2,f0,f1,f2⟩:=GF Z3.out;clear R o1 o2 o3 o4))
 .obtain⟨I,h2⟩:=Re (.slice none 0 0) (.slice none 0 0) (.string ⟨#[]⟩) Z2.out;refine a' (Eb rfl _ _ (w.heap.size+1) _ _ _ (by rfl) I) rfl ?_;exact⟨_,_,rfl,Cs (S1.out.trans J.out) h2 fun x hx c=>(by have c:x=w.heap.size+1:=c;omega),Rl.none _ _⟩
 .obtain⟨I,h2⟩:=Re (.slice none 0 0) (.slice none 0 0) (.string ⟨#[]⟩) Z3.out;refine a' (Eb rfl _ _ (w.heap.size+1) _ _ _ (by rfl) I) rfl ?_;exact⟨_,_,rfl,Cs (((S1.out.trans J.out).trans S3.out).trans (AD.alloc _ _ _)) h2 fun x hx c=>(by have c:x=w.heap.size+1:=c;omega),Rl.none _ _⟩
 .obtain⟨I,h2⟩:=Re (.slice k1 k2 k3) (.slice l1 l2 l3) (.string ⟨zd.Log.toArray⟩) Z3.out;have ef:w.heap.size+2<=w2.heap.size:=by have:=J.out.size;simp at this;omega
  refine a' (Eb rfl _ _ (w.heap.size+1) _ _ _ (by rfl) I) rfl ?_;exact⟨_,_,rfl,Cs (((S1.out.trans J.out).trans S3.out).trans (AD.alloc _ _ _)) h2 fun x hx c=>(by have c:x=w.heap.size+1:=c;omega),Rl.mono (N:=w2.heap.size) ⟨_,_,ba,ca,bb,cb,bo,co,rfl,(O1.out.same (AD.alloc C' _ _) fun _=>id).same h2 fun p c=>(by have c:ba=w.heap.size+1:=c;have:=O1.out.ge p;omega),(O2.out.same (AD.alloc C' _ _) fun _=>id).same h2 fun p c=>(by have c:bb=w.heap.size+1:=c;have:=O2.out.ge p;omega),(O3.out.same (AD.alloc C' _ _) fun _=>id).same h2 fun p c=>(by have c:bo=w.heap.size+1:=c;have:=O3.out.ge p;omega),O4.out⟩ n'⟩
set_option maxHeartbeats 8000000
def Gm(N M:Nat)(w:b0)(vd vo:Value)(d:Ad)(o:List L8):Prop := ∃U R J ca I j C co,vd = .agg #[U,R,.string ⟨d.Log.toArray⟩]/\Own N 5 w U (ao AN d.Stars) J ca/\Own N 5 w R (ao AC d.Estimates) I j/\Own N 1 w vo (ao AV.str o) C co/\(0<ca->0<j->J≠I)/\(0<co->0<ca->C≠J)/\(0<co->0<j->C≠I)/\(0<ca->J<M)/\(0<j->I<M)/\(0<co->C<M)
variable{N:Nat}{C j:Value}{o:List L8}
def Rl.gm(h:Rl N w C j d o):Gm N w.heap.size w C j d o:=by
  obtain⟨U,R,ba,ca,bb,cb,bo,co,e,J,h2,I,h4,h5,h6⟩:=h;exact⟨U,R,ba,ca,bb,cb,bo,co,e,J,h2,I,h4,h5,h6,J.lt,h2.lt,I.lt⟩
variable{M:Nat}
def Gm.got(h:Gm N M w C j d o):Rl N w C j d o:=by
  obtain⟨J,I,ba,ca,bb,cb,bo,co,e,h1,h2,h3,h4,U,R,-⟩:=h;exact⟨J,I,ba,ca,bb,cb,bo,co,e,h1,h2,h3,h4,U,R⟩
variable{K:Nat->Prop}
def Gm.away{w':b0}{I:Value}(h:Gm N M w I C d o)(hs:AD K w w')(j:∀b,K b->b<N\/M<=b):Gm N M w' I C d o:=by
  obtain⟨va,U,ba,ca,bb,cb,bo,co,e,R,h2,J,h4,h5,h6,m1,m2,m3⟩:=h;exact⟨va,U,ba,ca,bb,cb,bo,co,e,R.same hs fun p c=>(by have:=R.ge p;have:=m1 p;have:=j _ c;omega),h2.same hs fun p c=>(by have:=h2.ge p;have:=m2 p;have:=j _ c;omega),J.same hs fun p c=>(by have:=J.ge p;have:=m3 p;have:=j _ c;omega),h4,h5,h6,m1,m2,m3⟩
def ue{j:b0}(g:GT C' j)(s:AD (fun x=>j.heap.size<=x) j w)(C:∀b,K b->j.heap.size<=b):GT K w :=
  (g.mono (S':=fun x=>j.heap.size<=x) (AD.refl _ _) fun b hb c=>(by have c:j.heap.size<=b:=c;omega)).mono s fun b _ c=>C b c
variable{k:Int}
attribute [local irreducible] b4 in
def aO{w0:b0}{vd vo:Value}{k1 k2:Int}{S':List Star}{E':List AA}(h:Gm N M w vd vo d o)(g:GT C' w0)(s:AD (fun x=>w0.heap.size<=x) w0 w)(hN:w0.heap.size<=N)(m1:Dl d.Stars k=some (k1,S'))(m2:CL d.Estimates k1=some (k2,E')):
    b4 Tryz.prog 13 #[vd,.int .i64 k] w fun e w'=>e = .returned (.int .i64 k2)/\AD (fun x=>N<=x/\x<M) w w'/\Gm N M w' vd vo ⟨S',E',d.Log⟩ o:=by
  obtain⟨va,vb,J,ca,R,U,bo,co,rfl,h1,h2,h3,h4,h5,h6,l1,l2,l3⟩:=h;obtain⟨a1,a2,a3,rfl⟩:=h1.slice;obtain⟨b1,b2,b3,rfl⟩:=h2.slice;have s1:=AD.alloc C' w (dC (.slice a1 a2 a3) (.slice b1 b2 b3) d.Log);have hz:=heap_alloc_new w (dC (.slice a1 a2 a3) (.slice b1 b2 b3) d.Log);have O1:=ae (h1.same s1 fun _=>id);have O2:=ae (h2.same s1 fun _=>id);have O3:=ae (h3.same s1 fun _=>id);have S1:=ae s1;have ad:=ae (s.trans (s1.mono fun _ _ c=>c.elim));have HZ:=ae hz;have NE:=ae (ax h4 (ax h5 h6));have LT:=ae (ax l1 (ax l2 l3));have BA:∀p:0<ca,J≠w.heap.size:=fun p=>by have:=h1.lt p;omega
  have BB:∀p:0<U,R≠w.heap.size:=fun p=>by have:=h2.lt p;omega
  have a8:=ae BA;have dx:=ae BB;have a7:=ae m1;have a6:=ae m2;have HG:=ae g;clear h1 h2 h3 h4 h5 h6 l1 l2 l3 s1 hz s BA BB m1 m2 g
  go_enter Tryz.func13,Tryz.ntmps13
  go_wp2_with (first
    |(go_at_call 38;refine(nl a7.out O1.out (ue HG.out ad.out fun b c=>(by have c:0<ca/\b=J:=c;have:=O1.out.ge c.1;omega))).mono ?_;rintro e w2 ⟨rfl,C,ab⟩;obtain⟨p0,p1,p2⟩:=II ((C.block w.heap.size p' fun c=>(by have c:0<ca/\w.heap.size=J:=c;exact a8.out c.1 c.2.symm)).trans HZ.out);have S2:=ae C;have P1:=ae ab;have P2:=ae (O2.out.same C fun p c=>(by have c:0<ca/\R=J:=c;exact NE.out.1 c.1 p c.2.symm));have P3:=ae (O3.out.same C fun p c=>(by have c:0<ca/\bo=J:=c;exact NE.out.2.1 p c.1 c.2));have ay:=ae (ad.out.trans (C.mono fun b _ c=>(by have c:0<ca/\b=J:=c;have:=O1.out.ge c.1;show _<=b;omega)));clear C ab)
    |(go_at_call 39;refine(qy a6.out P2.out (ue HG.out ay.out fun b c=>(by have c:0<U/\b=R:=c;have:=P2.out.ge c.1;omega))).mono ?_;rintro e w3 ⟨rfl,I,aa⟩;have S3:=ae I;have R2:=ae aa;have R1:=ae (P1.out.same I fun p c=>(by have c:0<U/\J=R:=c;exact NE.out.1 p c.1 c.2));have R3:=ae (P3.out.same I fun p c=>(by have c:0<U/\bo=R:=c;exact NE.out.2.2 p c.1 c.2));clear I aa))
  go_ret
  refine⟨rfl,?_,_,_,J,ca,R,U,bo,co,rfl,R1.out,R2.out,R3.out,NE.out.1,NE.out.2.1,NE.out.2.2,LT.out.1,LT.out.2.1,LT.out.2.2⟩;exact((S1.out.mono fun _ _ c=>c.elim).trans (S2.out.mono fun b _ c=>(by have c:0<ca/\b=J:=c;have:=O1.out.ge c.1;have:=LT.out.1 c.1;exact⟨n',n'⟩))).trans (S3.out.mono fun b _ c=>(by have c:0<U/\b=R:=c;have:=P2.out.ge c.1;have:=LT.out.2.1 c.1;exact⟨n',n'⟩))
def xS{I:b0}{vd J:Value}{O':List L8}{k1:Int}(h:Gm N M w vd J d o)(g:GT C' I)(s:AD (fun x=>I.heap.size<=x) I w)(hN:I.heap.size<=N)(m:DX o k=some (k1,O')):
    b4 Tryz.prog 14 #[J,.int .i64 k] w fun e w'=>e = .returned (.int .i64 k1)/\AD (fun x=>N<=x/\x<M) w w'/\Gm N M w' vd J d O':=by
  obtain⟨va,vb,ba,ca,bb,cb,C,co,rfl,h1,h2,U,h4,h5,h6,l1,l2,l3⟩:=h;refine(qw m U (ue g s fun b c=>(by have c:0<co/\b=C:=c;have:=U.ge c.1;omega))).mono ?_;rintro e w2 ⟨rfl,j,R⟩;exact⟨rfl,j.mono fun b _ c=>(by have c:0<co/\b=C:=c;have:=U.ge c.1;have:=l3 c.1;exact⟨n',n'⟩),va,vb,ba,ca,bb,cb,C,co,rfl,h1.same j fun p c=>(by have c:0<co/\ba=C:=c;exact h5 c.1 p c.2.symm),h2.same j fun p c=>(by have c:0<co/\bb=C:=c;exact h6 c.1 p c.2.symm),R,h4,h5,h6,l1,l2,l3⟩
attribute [local irreducible] b4 in
def Ux(hS:Gg d.Stars=some d.Stars)(hE:Dy d.Estimates=some d.Estimates)(ha:VR C' w va (.sl 5 (ao AN d.Stars)))(hb:VR C' w vb (.sl 5 (ao AC d.Estimates)))(hg:GT C' w):
    b4 Tryz.prog 9 #[.agg #[va,vb,.string ⟨d.Log.toArray⟩]] w fun e w'=>∃vd,e = .returned vd/\AD C' w w'/\Rl w.heap.size w' vd (.slice none 0 0) d []:=by
  obtain⟨a1,a2,a3,rfl⟩:=l28.sl_of ha;obtain⟨J,I,C,rfl⟩:=l28.sl_of hb;have e1:(w.alloc (lC (.slice a1 a2 a3) (.slice J I C) d.Log)).heap.size=w.heap.size+1:=p'
  have hz:=ae (show(((w.alloc (lC (.slice a1 a2 a3) (.slice J I C) d.Log)).alloc zC).alloc zC).heap.size=w.heap.size+3 by simp);have s0:=(AD.alloc C' w (lC (.slice a1 a2 a3) (.slice J I C) d.Log));have s1:=(s0.trans (AD.alloc C' (w.alloc (lC (.slice a1 a2 a3) (.slice J I C) d.Log)) zC)).trans (AD.alloc C' ((w.alloc (lC (.slice a1 a2 a3) (.slice J I C) d.Log)).alloc zC) zC);have hR:(((w.alloc (lC (.slice a1 a2 a3) (.slice J I C) d.Log)).alloc zC).alloc zC).heap[w.heap.size+1]? = some zC:=by have:=b5 (w.alloc (lC (.slice a1 a2 a3) (.slice J I C) d.Log)) zC zC;rwa [e1]at this
  have hQ:(((w.alloc (lC (.slice a1 a2 a3) (.slice J I C) d.Log)).alloc zC).alloc zC).heap[w.heap.size+1+1]? = some zC:=by have:=b6 (w.alloc (lC (.slice a1 a2 a3) (.slice J I C) d.Log)) zC zC;rwa [e1]at this
  have hA:(((w.alloc (lC (.slice a1 a2 a3) (.slice J I C) d.Log)).alloc zC).alloc zC).heap[w.heap.size]? = some (lC (.slice a1 a2 a3) (.slice J I C) d.Log):=(((AD.alloc C' (w.alloc (lC (.slice a1 a2 a3) (.slice J I C) d.Log)) zC).trans (AD.alloc C' ((w.alloc (lC (.slice a1 a2 a3) (.slice J I C) d.Log)).alloc zC) zC)).block w.heap.size p' id).trans (heap_alloc_new w (lC (.slice a1 a2 a3) (.slice J I C) d.Log));have VA:=ae (ha.mono s1 fun _ _ c=>c);have VB:=ae (hb.mono s1 (S':=fun k=>k=w.heap.size+1+1) fun b hb c=>(by have c:b=w.heap.size+1+1:=c;omega));have GG:=ae (hg.mono s1 (S':=fun k=>k=w.heap.size+1+1) fun b hb c=>(by have c:b=w.heap.size+1+1:=c;omega));have S1:=ae s1;have HR:=ae hR;have HQ:=ae hQ;have HA:=ae hA;have HS:=ae hS;have HE:=ae hE;clear hS hE ha hb hg e1 s0 s1 hR hQ hA
  go_enter Tryz.func9,Tryz.ntmps9
  go_wp2_with (first
    |(go_at_call 33;refine(wJ HS.out VA.out (GG.out.mono (AD.refl _ _) fun _ _ c=>c.elim)).mono ?_;rintro e w2 ⟨u,ub,uc,rfl,U,ho⟩;obtain⟨u1,u2,u3,rfl⟩:=ho.slice;have Z2:=ae ((U.block (w.heap.size+1+1) (by have:=hz.out;omega) id).trans HQ.out);obtain⟨q0,q1,q2,f0,f1,f2⟩:=GF Z2.out;have Z3:=ae ((au w2 (w.heap.size+1+1) 0 _ _ (.slice u1 u2 u3) Z2.out).trans rfl);have A2:=ae ((U.block w.heap.size (by have:=hz.out;omega) id).trans HA.out);obtain⟨p0,p1,p2⟩:=II A2.out;have p3:=l28.se (c:=w.heap.size+1+1) (k:=0) (u:=.slice u1 u2 u3) p1 n';have OU:=ae ho;have S2:=ae U;clear U ho)
    | (go_at_call 34;refine(fN HE.out ((VB.out.mono (S:=fun k=>k=w.heap.size+1+1) (S':=fun k=>k=w.heap.size+1+1) (S2.out.mono fun _ _ c=>c.elim) fun _ _ c=>c).mono (CB (w:=w2) ⟨w.heap.size+1+1,0,none⟩ (.slice u1 u2 u3)) fun _ _ c=>c.elim) ((GG.out.mono (S:=fun k=>k=w.heap.size+1+1) (S':=fun k=>k=w.heap.size+1+1) (S2.out.mono fun _ _ c=>c.elim) fun _ _ c=>c).mono (CB (w:=w2) ⟨w.heap.size+1+1,0,none⟩ (.slice u1 u2 u3)) fun _ _ c=>c.elim)).mono ?_
       rintro e w4 ⟨v,vb,vc,rfl,R,aj⟩;obtain⟨v1,v2,v3,rfl⟩:=aj.slice;have a7:=S2.out.size;have a8:=hz.out;have a6:(w2.setCell ⟨w.heap.size+1+1,0,none⟩ (.slice u1 u2 u3)).heap.size=w2.heap.size:=by simp[World.setCell]
       have bs:=R.size;have Z4:=ae ((R.block (w.heap.size+1+1) n' id).trans Z3.out);obtain⟨q0,q1,q2,f0,f1,f2⟩:=GF Z4.out;have Z5:=ae ((au w4 (w.heap.size+1+1) 1 _ _ (.slice v1 v2 v3) Z4.out).trans rfl);obtain⟨t0,t1,t2,y0,y1,y2⟩:=GF Z5.out;have Z6:=ae ((au _ (w.heap.size+1+1) 2 _ _ (.string ⟨d.Log.toArray⟩) Z5.out).trans rfl);obtain⟨r0,r1,r2⟩:=II Z6.out;have p4:=l28.se (c:=w.heap.size+1+1) (k:=1) (u:=.slice v1 v2 v3) (R.cell id (l28.se (c:=w.heap.size+1+1) (k:=0) (u:=.slice u1 u2 u3) p2 n')) n';have K0:=CB (w:=w2) ⟨w.heap.size+1+1,0,none⟩ (.slice u1 u2 u3);have K1:=CB (w:=w4) ⟨w.heap.size+1+1,1,none⟩ (.slice v1 v2 v3);have K2:=CB (w:=w4.setCell ⟨w.heap.size+1+1,1,none⟩ (.slice v1 v2 v3)) ⟨w.heap.size+1+1,2,none⟩ (.string ⟨d.Log.toArray⟩);have aa:¬ w.heap.size+1=w.heap.size+1+1:=n'
       have bo:(w4.setCell ⟨w.heap.size+1+1,1,none⟩ (.slice v1 v2 v3)).heap.size=w4.heap.size:=by simp[World.setCell]
       have R6:=ae ((K2.block (w.heap.size+1) n' aa).trans ((K1.block (w.heap.size+1) n' aa).trans ((R.block (w.heap.size+1) n' id).trans ((K0.block (w.heap.size+1) n' aa).trans ((S2.out.block (w.heap.size+1) n' id).trans HR.out)))));obtain⟨x0,x1,x2,j0,j1,j2⟩:=GF R6.out;have OV:=ae aj;have S4:=ae R;have HK:=ae (ax K0 (ax K1 K2));clear R aj K0 K1 K2 a8 a7 a6 bs bo aa))
  obtain⟨h1,h2⟩:=Re (.slice u1 u2 u3) (.slice v1 v2 v3) (.string ⟨d.Log.toArray⟩) R6.out;refine a' (results_cell_row rfl _ _ (w.heap.size+1) _ _ _ _ (by rfl) h1 Tryz.underlying32 rfl o') rfl ?_;have ay:=((HK.out.2.1.mono (S':=fun x=>w.heap.size<=x/\x<w.heap.size+3) fun b _ c=>(by have c:b=w.heap.size+1+1:=c;show _/\_;omega)).trans (HK.out.2.2.mono fun b _ c=>(by have c:b=w.heap.size+1+1:=c;show _/\_;omega))).trans (h2.mono fun b _ c=>(by have c:b=w.heap.size+1:=c;show _/\_;omega));have az:=((HK.out.1.mono (S':=fun x=>w.heap.size<=x/\x<w.heap.size+3) fun b _ c=>(by have c:b=w.heap.size+1+1:=c;show _/\_;omega)).trans (S4.out.mono fun _ _ c=>c.elim)).trans ay;have a8:=hz.out;have a7:=S2.out.size;have a6:=HK.out.1.size;exact⟨_,rfl,Cs (S1.out.trans S2.out) az fun x hx c=>(by have c:w.heap.size<=x/\x<w.heap.size+3:=c;omega),_,_,ub,uc,vb,vc,0,0,rfl,(OU.out.same az fun p c=>(by have c:w.heap.size<=ub/\ub<w.heap.size+3:=c;have:=OU.out.ge p;omega)).mono n',(OV.out.same ay fun p c=>(by have c:w.heap.size<=vb/\vb<w.heap.size+3:=c;have:=OV.out.ge p;omega)).mono n',Own.nil _ _ _ n',fun p q=>(by have:=OU.out.lt p;have:=OV.out.ge q;omega),fun c=>absurd c n',fun c=>absurd c n'⟩
end Go.Proofs.YtegmpdmpgmpiaaaGreatDoor.dsk
