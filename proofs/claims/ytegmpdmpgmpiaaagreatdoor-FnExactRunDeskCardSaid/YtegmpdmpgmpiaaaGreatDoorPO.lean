/- Lemmas and walks, several texts in one. No condition. -/
import Derived.Test.YtegmpdmpgmpiaaaGreatDoorPJ
open Go.Lib renaming hid->a6
open List renaming map->a8
open Option renaming some->a7,none->ab
set_option linter.defProp false
set_option linter.unusedSimpArgs false
set_option linter.unusedVariables false
set_option maxRecDepth 100000
set_option maxHeartbeats 8000000
namespace Go.Proofs.YtegmpdmpgmpiaaaGreatDoor.l28
open Go Go.RowKit Go.Proofs.YtegmpdmpgmpiaaaGreatDoor Go.Proofs.YtegmpdmpgmpiaaaGreatDoor.plot Go.Proofs.YtegmpdmpgmpiaaaGreatDoor.rdc
theorem uH{O:Nat->Prop}{sb:Nat}{j g:Value}{v:Fin 3->Value}{s:FL}{w W:World}{x:List UInt8}{y:List AJ×Int}(h:Fv s.d.Estimates x=a7 y)(i:Q O sb j g v s w)(hs:AG (fun _=>False) w W):
  Calls Tryz.prog 90 #[g,.string ⟨x.toArray⟩] W fun e w'=>∃ u,e = .returned (.tuple #[u,.int .i64 y.2])∧AG (fun _=>False) w w'∧VR O w' u (.sl 2 (a8 AP y.1)) :=
 (DG s_139.s Tryz.func90 rfl (by decide +kernel) (args:=[.sl 5 (a8 AC s.d.Estimates),.str x]) (vargs:=#[g,.string ⟨x.toArray⟩]) rfl (by rw[ALB];rfl) rfl (RA (i.still hs).se .str) (i.still hs).lo (i.still hs).gt (AIi h)).mono fun e w' ⟨u,C,h2,p⟩=>by
  obtain⟨a,rfl,o⟩:=KU p;exact⟨a,C,hs.trans h2,o⟩
theorem ki{S:Nat->Prop}{w:World}{u:Value}{x z:Int}(h:VR S w u (.tup [.int .i64 x,.int .i64 z])):u = .tuple #[.int .i64 x,.int .i64 z]:=by
 obtain⟨a,rfl,g⟩:=KU h;cases g
 rfl
theorem AKc{O:Nat->Prop}{w:World}{l:List AJ}{y:Int×Int}{g:Value}(h:Cr l=a7 y)(i:VR O w g (.sl 2 (a8 AP l)))(lo:∀ b,O b->b<w.heap.size)(gt:GT O w):
  Calls Tryz.prog 92 #[g] w fun e w'=>e = .returned (.tuple #[.int .i64 y.1,.int .i64 y.2])∧AG (fun _=>False) w w' :=
 (DG s_143.s Tryz.func92 rfl (by decide +kernel) (args:=[.sl 2 (a8 AP l)]) (vargs:=#[g]) rfl (by rw[ALA];rfl) rfl (Xr i) lo gt (AIh h)).mono fun e w' ⟨u,o,h2,j⟩=>⟨o.trans (by rw[ki j]),h2⟩
theorem AIE{O:Nat->Prop}{w:World}{l:List AJ}{a b c:Int}{y:Int×Int}{g:Value}(h:Co l ⟨a,b,c⟩=a7 y)(i:VR O w g (.sl 2 (a8 AP l)))(lo:∀ b,O b->b<w.heap.size)(gt:GT O w):
  Calls Tryz.prog 93 #[g,.agg #[.int .i64 a,.int .i64 b,.int .i64 c]] w fun e w'=>e = .returned (.tuple #[.int .i64 y.1,.int .i64 y.2])∧AG (fun _=>False) w w' :=
 (DG s_157.s Tryz.func93 rfl (by decide +kernel) (args:=[.sl 2 (a8 AP l),PU ⟨a,b,c⟩]) (vargs:=#[g,.agg #[.int .i64 a,.int .i64 b,.int .i64 c]]) rfl (by rw[AKz];rfl) rfl (RA i (AKe .int .int .int rfl)) lo gt (AIf h)).mono fun e w' ⟨u,o,h2,j⟩=>⟨o.trans (by rw[ki j]),h2⟩
theorem AID{O:Nat->Prop}{sb:Nat}{o j:Value}{v:Fin 3->Value}{s:FL}{w W:World}{l:List AJ}{a b c:Int}{y:Int×Int}{g:Value}(h:Co l ⟨a,b,c⟩=a7 y)(p:VR O w g (.sl 2 (a8 AP l)))(i:Q O sb o j v s w)(hs:AG (fun _=>False) w W):
  Calls Tryz.prog 93 #[g,.agg #[.int .i64 a,.int .i64 b,.int .i64 c]] W fun e w'=>e = .returned (.tuple #[.int .i64 y.1,.int .i64 y.2])∧AG (fun _=>False) w w' :=
 (AIE h (p.mono (Tv hs) fun _ _ c=>c) (i.still hs).lo (i.still hs).gt).mono fun e w' ⟨a,b⟩=>⟨a,hs.trans b⟩
theorem AAH{O:Nat->Prop}{sb:Nat}{I g:Value}{v:Fin 3->Value}{s:FL}{w W:World}{a b:Int}{y:List (List Int)×Int}(h:Ck s.d.Estimates a b=a7 y)(i:Q O sb I g v s w)(hs:AG (fun _=>False) w W):
  Calls Tryz.prog 49 #[g,.int .i64 a,.int .i64 b] W fun e w'=>∃ p c,e = .returned (.tuple #[.slice p y.1.length c,.int .i64 y.2])∧AG (fun _=>False) w w' :=
 (DG s_162.s Tryz.func49 rfl (by decide +kernel) (args:=[.sl 5 (a8 AC s.d.Estimates),.int .i64 a,.int .i64 b]) (vargs:=#[g,.int .i64 a,.int .i64 b]) rfl (by rw[AKw];rfl) rfl (fun j R=>by match j,R with|0,_=>exact (i.still hs).se|1,_=>exact .int|2,_=>exact .int) (i.still hs).lo (i.still hs).gt (AIc h)).mono fun e w' ⟨u,U,h2,T⟩=>by
  obtain⟨a,rfl,C⟩:=KU T
  have:∃ p c,a = .slice p y.1.length c:=by
   cases C with
   | @sl a n cap sz els b off rd P o J C hc hw hr=>exact⟨a,cap,by rw[P];simp⟩
  obtain⟨p,c,rfl⟩:=this;exact⟨p,c,U,hs.trans h2⟩
attribute [local irreducible] Calls in
theorem ABq{O:Nat->Prop}{sb:Nat}{s s':FL}{w:World}{x:List UInt8}(h:At O sb s w)(U:RX s x=a7 s'):
  Calls Tryz.prog 53 #[.pointer (a7 ⟨sb,0,ab⟩),.string ⟨x.toArray⟩] w fun e w'=>e = .returned (.tuple #[])∧Em O sb w s' w':=by
 obtain⟨aa,U⟩:=AO U;have aa:1<=s.texts.length:=of_decide_eq_true aa;obtain⟨y,hy,U⟩:=AN U;obtain⟨⟨b,g⟩,hq,U⟩:=AN U;obtain⟨va,vb,v,h⟩:=h;obtain⟨-,c1,-,-,-,c5,-,-⟩:=h.cells;obtain⟨gt,ct,et,lt,ax⟩:=Ok h (by omega);rw[et] at c5;have t0:=ax 0 (by omega);obtain⟨nt,au⟩:∃ n,n=s.texts.length:=⟨_,rfl⟩;obtain⟨T0,e4⟩:∃ x,s.texts.getD 0 []=x:=⟨_,rfl⟩;rw[e4] at t0 hy;rw[← au] at c5;have i5:0<nt:=by omega
 have H:=a6 h;have HY:=a6 hy;have HQ:=a6 hq;have HR:=a6 U;clear h hy hq U ax e4 au aa et;obtain⟨ae,me,ke,rfl⟩:=sl_of H.out.se
 go_enter Tryz.func53,Tryz.ntmps53
 go_wp2
 go_region_held3 (fun w'=>w'.cell? ⟨sb,1,ab⟩=a7 (.slice ae me ke)∧w'.cell? ⟨sb,5,ab⟩=a7 (.slice (a7 ⟨gt,0,ab⟩) nt ct)∧w'.cell? ⟨gt,0,ab⟩=a7 (.string ⟨T0.toArray⟩)) (with_reducible first|exact J.out|exact⟨dr c1,dr c5,dr t0⟩) (first
  | (go_at_call 90;refine (uH HY.out H.out (AG.drew _ _)).mono ?_;rintro e w1 ⟨u,rfl,C,hu⟩;have J:=a6 (show _∧_∧_ from ⟨C.cell id c1,C.cell id c5,C.cell id t0⟩);have S1:=a6 C;have HU:=a6 hu;clear C hu))
 clear c1 c5 t0;cases b with
 | true=>
  obtain rfl:=AR (show a7 g=a7 s' from HR.out)
  go_wp2_with (go_at_call 19;refine (GV ⟨_,_,_,H.out.still S1.out⟩ HQ.out).mono ?_;rintro e w2 ⟨rfl,o⟩;have E2:=a6 o;clear o)
  refine bodyPost_ret (results_none rfl _ _ _) rfl ?_;exact⟨rfl,Em.behind S1.out E2.out⟩
 | false=>
  have j:(if x==[99,117,114,118,101] then ck (few y.1.length) <| curve g y.1 else if x==[97,109,112] then (Cr y.1).bind fun a=>YH g a.1 a.2 else if x==[98,101,115,116] then ck (decide (3<=g.nums.length)) <| (Co y.1 ⟨g.nums.getD 0 0,g.nums.getD 1 0,g.nums.getD 2 0⟩).bind fun a=>YH g a.1 a.2 else xP g y.1)=a7 s':=HR.out
  have HA:=a6 (show (x==[99,117,114,118,101])=true->y.1.length<1099511627776∧curve g y.1=a7 s' from fun e=>by
   rw[if_pos e] at j;obtain⟨q,r⟩:=AO j;exact⟨of_decide_eq_true q,r⟩)
  have HB:=a6 (show (x==[99,117,114,118,101])=false->(x==[97,109,112])=true->∃ a,Cr y.1=a7 a∧YH g a.1 a.2=a7 s' from fun e T=>by
   rw[if_neg (by rw[e];decide),if_pos T] at j;exact AN j)
  have HC:=a6 (show (x==[99,117,114,118,101])=false->(x==[97,109,112])=false->(x==[98,101,115,116])=true->3<=g.nums.length∧∃ a,Co y.1 ⟨g.nums.getD 0 0,g.nums.getD 1 0,g.nums.getD 2 0⟩=a7 a∧YH g a.1 a.2=a7 s' from fun e T e3=>by
   rw[if_neg (by rw[e];decide),if_neg (by rw[T];decide),if_pos e3] at j;obtain⟨q,r⟩:=AO j;exact⟨of_decide_eq_true q,AN r⟩)
  have HD:=a6 (show (x==[99,117,114,118,101])=false->(x==[97,109,112])=false->(x==[98,101,115,116])=false->xP g y.1=a7 s' from fun e T e3=>by
   rw[if_neg (by rw[e];decide),if_neg (by rw[T];decide),if_neg (by rw[e3];decide)] at j;exact j)
  clear j HR
  go_wp2_with (first
   | (go_at_call 19;refine (GV ⟨_,_,_,H.out.still S1.out⟩ HQ.out).mono ?_;rintro e w2 ⟨rfl,O1,a1,b1,x1,cl,cf,v1,q1⟩;have A1:=a6 a1;have B1:=a6 b1;have X1:=a6 x1;have p:=a6 q1;have V1:=a6 (VR.ext HU.out x1 b1);clear a1 b1 x1 q1)
   | (go_at_call 91;refine (ABN ⟨_,_,_,p.out⟩ V1.out (HA.out (by assumption)).1 (HA.out (by assumption)).2).mono ?_;rintro e w3 ⟨rfl,o⟩;have E3:=a6 o;clear o)
   | (go_at_call 92;obtain⟨a,ha,I⟩:=HB.out (by assumption) (by assumption);have HS:=a6 I;clear I;refine (AKc ha V1.out p.out.lo p.out.gt).mono ?_;rintro e w3 ⟨rfl,i⟩;have S3:=a6 i;clear i ha)
   | (go_at_call 50;refine (uv ⟨_,_,_,p.out.still S3.out⟩ HS.out).mono ?_;rintro e w4 ⟨rfl,o⟩;have E3:=a6 (Em.behind S3.out o);clear o)
   | (go_at_call 94;refine (AGg ⟨_,_,_,p.out⟩ V1.out (HD.out (by assumption) (by assumption) (by assumption))).mono ?_;rintro e w3 ⟨rfl,o⟩;have E3:=a6 o;clear o))
  all_goals first
   | (refine bodyPost_end (results_none rfl _ _ _) rfl ?_;exact⟨rfl,Em.behind S1.out (Em.then A1.out B1.out X1.out E3.out)⟩)
   | skip
  obtain⟨P,a,ha,I⟩:=HC.out (by assumption) (by assumption) (by assumption);obtain⟨-,-,-,-,c4,-,-,-⟩:=p.out.cells;obtain⟨gn,cn,en,ln,R⟩:=Rn p.out (by omega);rw[en] at c4;have n0:=R 0 (by omega);have n1:=R 1 (by omega);have n2:=R 2 (by omega);obtain⟨nn,av⟩:∃ n,n=g.nums.length:=⟨_,rfl⟩;obtain⟨N0,e0⟩:∃ x,g.nums.getD 0 0=x:=⟨_,rfl⟩;obtain⟨N1,e1⟩:∃ x,g.nums.getD 1 0=x:=⟨_,rfl⟩;obtain⟨N2,T⟩:∃ x,g.nums.getD 2 0=x:=⟨_,rfl⟩;rw[e0] at n0;rw[e1] at n1;rw[T] at n2;rw[e0,e1,T] at ha;rw[← av] at c4 P;have i0:0<nn:=by omega
  have i1:(1:Int)<(nn:Int):=by omega
  have i2:(2:Int)<(nn:Int):=by omega
  have b0:=a6 ha;have HS:=a6 I;have ad:=a6 en;clear ha I e0 e1 T av R en P ln;have HK:=a6 (show (v1 0).ownBlock≠a7 gn∧gn≠sb∧(v1 0).ownBlock≠a7 sb from ⟨fun c=>p.out.ne 0 1 (by decide) gn c (by rw[ad.out];rfl),fun e=>p.out.neo 1 (by rw[ad.out,← e];rfl),p.out.neo 0⟩);clear J ad
  go_region_held3 (fun w'=>w'.cell? ⟨sb,4,ab⟩=a7 (.slice (a7 ⟨gn,0,ab⟩) nn cn)∧w'.cell? ⟨gn,0,ab⟩=a7 (.int .i64 N0)∧w'.cell? ⟨gn,1,ab⟩=a7 (.int .i64 N1)∧w'.cell? ⟨gn,2,ab⟩=a7 (.int .i64 N2)) (with_reducible first|exact J.out|exact⟨dr c4,dr n0,dr n1,dr n2⟩) (first
   | (go_at_call 93;refine (AID b0.out V1.out p.out (AG.drew _ _)).mono ?_;rintro e w3 ⟨rfl,i⟩;have J:=a6 (show _∧_∧_∧_ from ⟨i.cell id c4,i.cell id n0,i.cell id n1,i.cell id n2⟩);have S3:=a6 i;clear i)
   | (go_at_call 50;refine (uu (p.out.still S3.out) HS.out).mono ?_;rintro e w4 ⟨rfl,o,P⟩;have P:=XX.behind S3.out P;have J:=a6 (show _∧_∧_∧_ from ⟨P _ _ _ c4 HK.out.2.2 (fun _=>by decide),P _ _ _ n0 HK.out.1 (fun e=>absurd e HK.out.2.1),P _ _ _ n1 HK.out.1 (fun e=>absurd e HK.out.2.1),P _ _ _ n2 HK.out.1 (fun e=>absurd e HK.out.2.1)⟩);have E3:=a6 (Em.behind S3.out o);clear o P))
  go_wp2
  refine bodyPost_end (results_none rfl _ _ _) rfl ?_;exact⟨rfl,Em.behind S1.out (Em.then A1.out B1.out X1.out E3.out)⟩
end Go.Proofs.YtegmpdmpgmpiaaaGreatDoor.l28
