/- Lemmas and walks, several texts in one. No condition. -/
import Derived.Test.YtegmpdmpgmpiaaaGreatDoorPN
open Go.Lib renaming hid->a7
set_option linter.defProp false
set_option linter.unusedSimpArgs false
set_option linter.unusedVariables false
set_option maxRecDepth 100000
set_option maxHeartbeats 8000000
namespace Go.Proofs.YtegmpdmpgmpiaaaGreatDoor.l28
open Go Go.RowKit Go.Proofs.YtegmpdmpgmpiaaaGreatDoor Go.Proofs.YtegmpdmpgmpiaaaGreatDoor.plot Go.Proofs.YtegmpdmpgmpiaaaGreatDoor.rdc
theorem AKe{O:Nat->Prop}{w:World}{a b c:Value}{x1 x2 g:AV}(o:VR O w a x1)(h2:VR O w b x2)(j:VR O w c g)(hs:[x1,x2,g].all AV.atom=true):VR O w (.agg #[a,b,c]) (.agg [x1,x2,g]):=by
 simp only[List.all_cons,List.all_nil,Bool.and_true,baT] at hs;refine .agg rfl (fun k i=>?_) (fun k i=>?_)
 ·match k,i with
  | 0,_=>exact hs.1
  | 1,_=>exact hs.2.1
  | 2,_=>exact hs.2.2
 ·match k,i with
  | 0,_=>exact o
  | 1,_=>exact h2
  | 2,_=>exact j
theorem oe{O:Nat->Prop}{sb:Nat}{j i:Value}{v:Fin 3->Value}{s:FL}{w W:World}{L:List UInt8}{e:AW}{y:List UInt8×Int}(h:FE L e=some y)(g:Q O sb j i v s w)(hs:AG (fun _=>False) w W):
  Calls Tryz.prog 85 #[.string ⟨L.toArray⟩,.agg #[.int .i64 e.Day,.string ⟨e.What.toArray⟩,.int .i64 e.Value]] W fun e w'=>e = .returned (.tuple #[.string ⟨y.1.toArray⟩,.int .i64 y.2])∧AG (fun _=>False) w w' :=
 (DG (O:=O) s_174.s Tryz.func85 rfl (by decide +kernel) (args:=[.str L,Bz e]) (vargs:=#[.string ⟨L.toArray⟩,.agg #[.int .i64 e.Day,.string ⟨e.What.toArray⟩,.int .i64 e.Value]]) rfl (by rw[AKq];rfl) rfl (RA .str (AKe .int .str .int rfl)) (g.still hs).lo (g.still hs).gt (AIW h)).mono fun e w' ⟨u,C,h2,p⟩=>by
  obtain⟨a,rfl,o⟩:=KU p;cases o
  exact⟨C,hs.trans h2⟩
theorem mU{O:Nat->Prop}{w:World}{L x:List UInt8}{y:List Int×Int}(h:EO L x=some y)(lo:∀ b,O b->b<w.heap.size)(gt:GT O w):
  Calls Tryz.prog 86 #[.string ⟨L.toArray⟩,.string ⟨x.toArray⟩] w fun e w'=>∃ u,e = .returned (.tuple #[u,.int .i64 y.2])∧AG (fun _=>False) w w'∧VR O w' u (.sl 1 (List.map (AV.int .i64) y.1)) :=
 (DG s_176.s Tryz.func86 rfl (by decide +kernel) (args:=[.str L,.str x]) (vargs:=#[.string ⟨L.toArray⟩,.string ⟨x.toArray⟩]) rfl (by rw[AKp];rfl) rfl (RA .str .str) lo gt (AIV h)).mono fun e w' ⟨u,j,h2,i⟩=>by
  obtain⟨a,rfl,g⟩:=KU i;exact⟨a,j,h2,g⟩
theorem AJH{O:Nat->Prop}{w:World}{l:List Int}{k:Int}{u:Value}(h:Il l=some k)(g:VR O w u (.sl 1 (List.map (AV.int .i64) l)))(lo:∀ b,O b->b<w.heap.size)(gt:GT O w):
  Calls Tryz.prog 87 #[u] w fun e w'=>e = .returned (.int .i64 k)∧AG (fun _=>False) w w' :=
 (DG s_186.s Tryz.func87 rfl (by decide +kernel) (args:=[.sl 1 (List.map (AV.int .i64) l)]) (vargs:=#[u]) rfl (by rw[AKg];rfl) rfl (Xr g) lo gt (AIN h)).mono fun e w' ⟨u,j,h2,i⟩=>by cases i;exact⟨j,h2⟩
attribute [local irreducible] Calls in
theorem ABH{O:Nat->Prop}{sb:Nat}{s s':FL}{w:World}(h:At O sb s w)(C:enter s=some s'):
  Calls Tryz.prog 51 #[.pointer (some ⟨sb,0,none⟩)] w fun e w'=>e = .returned (.tuple #[])∧Em O sb w s' w':=by
 obtain⟨hb,C⟩:=AO C;simp only[baT,dtE] at hb;obtain⟨a6,a5⟩:=hb;obtain⟨y,R,C⟩:=AN C;obtain⟨⟨b,o⟩,hq,C⟩:=AN C;obtain⟨va,vb,v,h⟩:=h;obtain⟨_,_,c2,_,c4,c5,_,_⟩:=h.cells;obtain⟨gn,cn,en,ln,I⟩:=Rn h (by omega);obtain⟨gt,ct,et,lt,aj⟩:=Ok h (by omega);rw[en] at c4;rw[et] at c5;have n0:=I 0 (by omega);have n1:=I 1 (by omega);have t0:=aj 0 (by omega);obtain⟨nn,ad⟩:∃ n,n=s.nums.length:=⟨_,rfl⟩;obtain⟨nt,ac⟩:∃ n,n=s.texts.length:=⟨_,rfl⟩;obtain⟨N0,e0⟩:∃ x,s.nums.getD 0 0=x:=⟨_,rfl⟩;obtain⟨N1,e1⟩:∃ x,s.nums.getD 1 0=x:=⟨_,rfl⟩;obtain⟨T0,e4⟩:∃ x,s.texts.getD 0 []=x:=⟨_,rfl⟩;obtain⟨L,eL⟩:∃ x,s.d.Log=x:=⟨_,rfl⟩;rw[e0] at n0 R;rw[e1] at n1 R;rw[e4] at t0 R;rw[eL] at c2 R;rw[← ad] at c4;rw[← ac] at c5;have i5:0<nt:=by omega
 have i0:0<nn:=by omega
 have i1:(1:Int)<(nn:Int):=by omega
 have H:=a7 h;have HY:=a7 R;have HQ:=a7 hq;have HR:=a7 C;clear h R hq C I aj e0 e1 e4 eL ad ac a6 a5 en et
 go_enter Tryz.func51,Tryz.ntmps51
 go_wp2
 go_region_held3 (fun w'=>w'.cell? ⟨sb,2,none⟩=some (.string ⟨L.toArray⟩)∧w'.cell? ⟨sb,4,none⟩=some (.slice (some ⟨gn,0,none⟩) nn cn)∧w'.cell? ⟨sb,5,none⟩=some (.slice (some ⟨gt,0,none⟩) nt ct)∧w'.cell? ⟨gt,0,none⟩=some (.string ⟨T0.toArray⟩)∧w'.cell? ⟨gn,0,none⟩=some (.int .i64 N0)∧w'.cell? ⟨gn,1,none⟩=some (.int .i64 N1)) (with_reducible first|exact bo.out|exact⟨dr c2,dr c4,dr c5,dr t0,dr n0,dr n1⟩) (first
  | (go_at_call 85;refine (oe HY.out H.out (AG.drew _ _)).mono ?_;rintro e w1 ⟨rfl,g⟩;have bo:=a7 (show _∧_∧_∧_∧_∧_ from ⟨g.cell id c2,g.cell id c4,g.cell id c5,g.cell id t0,g.cell id n0,g.cell id n1⟩);have S1:=a7 g;clear g))
 clear c2 c4 c5 t0 n0 n1;cases b with
 | true=>
  obtain rfl:=AR (show some o=some s' from HR.out)
  go_wp2_with (go_at_call 19;refine (GV ⟨_,_,_,H.out.still S1.out⟩ HQ.out).mono ?_;rintro e w2 ⟨rfl,he⟩;have E2:=a7 he;clear he)
  refine bodyPost_ret (results_none rfl _ _ _) rfl ?_;exact⟨rfl,Em.behind S1.out E2.out⟩
 | false=>
  obtain⟨z,hz,i⟩:=AN (show (EO y.1 (o.texts.getD 0 [])).bind (fun v=>(Il v.1).bind fun n=>(BB n).bind fun t=>ck (decide (1<=o.texts.length)) <| Mv { o with d:={ o.d with Log:=y.1 } } t)=some s' from HR.out);obtain⟨m,hm,i⟩:=AN i;obtain⟨t,ht,i⟩:=AN i;obtain⟨hk,ab⟩:=AO i;have hk:1<=o.texts.length:=of_decide_eq_true hk;obtain⟨T1,e5⟩:∃ x,o.texts.getD 0 []=x:=⟨_,rfl⟩;rw[e5] at hz;have bv:=a7 e5;have P:=a7 hk;have HZ:=a7 hz;have HM:=a7 hm;have HT:=a7 ht;have HS:=a7 ab;clear hz hm ht ab HR i e5
  go_wp2_with (first
   | (go_at_call 19;refine (GV ⟨_,_,_,H.out.still S1.out⟩ HQ.out).mono ?_;rintro e w2 ⟨rfl,O1,a1,b1,x1,c9,c8,v1,p⟩;obtain⟨_,_,d2,_,_,d5,_,df⟩:=p.cells;have dc:=df 2;obtain⟨g2,k2,e2,l2,ao⟩:=Ok p P.out;have p0:=ao 0 P.out;rw[e2] at d5;rw[bv.out] at p0;have j5:0<o.texts.length:=P.out;have db:=p.lt;have A1:=a7 a1;have B1:=a7 b1;have X1:=a7 x1;have a4:g2≠sb:=(fun e=>p.neo 2 (by rw[e2,← e];rfl));have ds:=se (c:=sb) (k:=2) (u:=.string ⟨y.1.toArray⟩) p0 a4;have E3:=a7 (p.cell (s':={ o with d:={ o.d with Log:=y.1 } }) (u:=.string ⟨y.1.toArray⟩) 2 rfl (fun j=>by match j with|0=>rfl|1=>rfl|2=>rfl) p.sa p.se);clear df a1 b1 x1 p ao e2)
   | (go_at_call 86;obtain⟨O2,a2,b2,x2,q2⟩:=E3.out;have A2:=a7 a2;have B2:=a7 b2;have X2:=a7 x2;have J:=a7 q2;clear a2 b2 x2 q2;refine (mU HZ.out J.out.lo J.out.gt).mono ?_;rintro e w4 ⟨u,rfl,aa,hu⟩;have S4:=a7 aa;have HU:=a7 hu;clear aa hu)
   | (go_at_call 87;refine (AJH HM.out HU.out (J.out.still S4.out).lo (J.out.still S4.out).gt).mono ?_;rintro e w5 ⟨rfl,U⟩;have S5:=a7 (S4.out.trans U);clear U)
   | (go_at_call 84;refine (eg HT.out (J.out.still S5.out).lo (J.out.still S5.out).gt).mono ?_;rintro e w6 ⟨rfl,T⟩;have S6:=a7 (S5.out.trans T);clear T)
   | (go_at_call 21;refine (Wn (J.out.still S6.out) HS.out).mono ?_;rintro e w7 ⟨rfl,he⟩;have E7:=a7 he;clear he))
  refine bodyPost_end (results_none rfl _ _ _) rfl ?_;exact⟨rfl,Em.behind S1.out (Em.then A1.out B1.out X1.out (Em.then A2.out B2.out X2.out (Em.behind S6.out E7.out)))⟩
end Go.Proofs.YtegmpdmpgmpiaaaGreatDoor.l28
