/- Lemmas. No condition. -/
import Derived.Test.YtegmpdmpgmpiaaaGreatDoorPJ
open Go.Lib renaming hid->a6
open List renaming map->aj
open Option renaming some->ad,none->au
set_option linter.defProp false
set_option linter.unusedSimpArgs false
set_option linter.unusedVariables false
set_option maxRecDepth 100000
set_option maxHeartbeats 8000000
namespace Go.Proofs.YtegmpdmpgmpiaaaGreatDoor.l28
open Go Go.RowKit plot rdc
variable{O:Nat->Prop}{sb:Nat}{I j:Value}{v:Fin 3->Value}{s:GV}{w W:World}{x:L8}{y:Int×Int}
def yQ{y:List AJ×Int}(h:Gd s.d.Estimates x=ad y)(C:Q O sb I j v s w)(hs:AD C' w W):
  Calls Tryz.prog 90 #[j,.string ⟨x.toArray⟩] W fun e w'=>∃u,e = .returned (.tuple #[u,.int .i64 y.2])/\AD C' w w'/\VR O w' u (.sl 2 (aj AQ y.1)) :=
 (DR s_139.s Tryz.func90 rfl z' (args:=[.sl 5 (aj AC s.d.Estimates),.str x]) (vargs:=#[j,.string ⟨x.toArray⟩]) rfl (by rw[AQL];rfl) rfl (hv2 (C.still hs).se .str) (C.still hs).lo (C.still hs).gt (ANd h)).mono fun e w' ⟨u,U,h2,R⟩=>by
  obtain⟨a,rfl,J⟩:=tup2_inv R;exact⟨a,U,hs.trans h2,J⟩
def oR{S:Nat->Prop}{u:Value}{x z:Int}(h:VR S w u (.tup [.int .i64 x,.int .i64 z])):u = .tuple #[.int .i64 x,.int .i64 z]:=by
 obtain⟨a,rfl,j⟩:=tup2_inv h;cases j
 rfl
variable{l:List AJ}
def APe(h:DB l=ad y)(C:VR O w j (.sl 2 (aj AQ l)))(lo:∀b,O b->b<w.heap.size)(gt:GT O w):
  Calls Tryz.prog 92 #[j] w fun e w'=>e = .returned (.tuple #[.int .i64 y.1,.int .i64 y.2])/\AD C' w w' :=
 (DR s_143.s Tryz.func92 rfl z' (args:=[.sl 2 (aj AQ l)]) (vargs:=#[j]) rfl (by rw[AQK];rfl) rfl (hv1 C) lo gt (ANc h)).mono fun e w' ⟨u,J,h2,I⟩=>⟨J.trans (by rw[oR I]),h2⟩
variable{a b c:Int}
def AMn(h:Cz l ⟨a,b,c⟩=ad y)(C:VR O w j (.sl 2 (aj AQ l)))(lo:∀b,O b->b<w.heap.size)(gt:GT O w):
  Calls Tryz.prog 93 #[j,.agg #[.int .i64 a,.int .i64 b,.int .i64 c]] w fun e w'=>e = .returned (.tuple #[.int .i64 y.1,.int .i64 y.2])/\AD C' w w' :=
 (DR s_157.s Tryz.func93 rfl z' (args:=[.sl 2 (aj AQ l),QT ⟨a,b,c⟩]) (vargs:=#[j,.agg #[.int .i64 a,.int .i64 b,.int .i64 c]]) rfl (by rw[AQJ];rfl) rfl (hv2 C (agg3 .int .int .int rfl)) lo gt (ANa h)).mono fun e w' ⟨u,J,h2,I⟩=>⟨J.trans (by rw[oR I]),h2⟩
def AMm{J:Value}(h:Cz l ⟨a,b,c⟩=ad y)(R:VR O w j (.sl 2 (aj AQ l)))(C:Q O sb J I v s w)(hs:AD C' w W):
  Calls Tryz.prog 93 #[j,.agg #[.int .i64 a,.int .i64 b,.int .i64 c]] W fun e w'=>e = .returned (.tuple #[.int .i64 y.1,.int .i64 y.2])/\AD C' w w' :=
 (AMn h (R.mono (YG hs) fun _ _ c=>c) (C.still hs).lo (C.still hs).gt).mono fun e w' ⟨a,b⟩=>⟨a,hs.trans b⟩
def AEc{U C:Value}{y:List (List Int)×Int}(h:Cw s.d.Estimates a b=ad y)(I:Q O sb U C v s w)(hs:AD C' w W):
  Calls Tryz.prog 49 #[C,.int .i64 a,.int .i64 b] W fun e w'=>∃p c,e = .returned (.tuple #[.slice p y.1.length c,.int .i64 y.2])/\AD C' w w' :=
 (DR s_162.s Tryz.func49 rfl z' (args:=[.sl 5 (aj AC s.d.Estimates),.int .i64 a,.int .i64 b]) (vargs:=#[C,.int .i64 a,.int .i64 b]) rfl (by rw[AQG];rfl) rfl (fun j hj=>by match j,hj with|0,_=>exact(I.still hs).se|1,_=>exact .int|2,_=>exact .int) (I.still hs).lo (I.still hs).gt (ANX h)).mono fun e w' ⟨u,h1,h2,h3⟩=>by
  obtain⟨a,rfl,R⟩:=tup2_inv h3
  have:∃p c,a = .slice p y.1.length c:=by
   cases R with
   | @sl a n cap sz els b off rd hn J aa R hc hw hr=>exact⟨a,cap,by rw[hn];simp⟩
  obtain⟨p,c,rfl⟩:=this;exact⟨p,c,h1,hs.trans h2⟩
attribute [local irreducible] Calls in
def AGc{s':GV}(h:At O sb s w)(hr:Sp s x=ad s'):
  Calls Tryz.prog 53 #[.pointer (ad ⟨sb,0,au⟩),.string ⟨x.toArray⟩] w fun e w'=>e = .returned (.tuple #[])/\GI O sb w s' w':=by
 obtain⟨ao,hr⟩:=AY hr;have ao:1<=s.texts.length:=of_decide_eq_true ao;obtain⟨y,hy,hr⟩:=AO hr;obtain⟨⟨b,s1⟩,hq,hr⟩:=AO hr;obtain⟨va,vb,v,h⟩:=h;obtain⟨-,c1,-,-,-,c5,-,-⟩:=h.cells;obtain⟨gt,ct,et,lt,ba⟩:=Pp h n';rw[et]at c5;have t0:=ba 0 n';obtain⟨nt,a7⟩:∃n,n=s.texts.length:=⟨_,rfl⟩;obtain⟨T0,e4⟩:∃x,s.texts.getD 0 []=x:=⟨_,rfl⟩;rw[e4]at t0 hy;rw[←a7]at c5;have i5:0<nt:=n'
 have H:=a6 h;have HY:=a6 hy;have HQ:=a6 hq;have HR:=a6 hr;clear h hy hq hr ba e4 a7 ao et;obtain⟨ae,me,ke,rfl⟩:=sl_of H.out.se
 go_enter Tryz.func53,Tryz.ntmps53
 go_wp2
 go_region_held3 (fun w'=>w'.cell? ⟨sb,1,au⟩=ad (.slice ae me ke)/\w'.cell? ⟨sb,5,au⟩=ad (.slice (ad ⟨gt,0,au⟩) nt ct)/\w'.cell? ⟨gt,0,au⟩=ad (.string ⟨T0.toArray⟩)) (with_reducible first|exact U.out|exact⟨dr c1,dr c5,dr t0⟩) (first
  |(go_at_call 90;refine(yQ HY.out H.out (AD.drew _ _)).mono ?_;rintro e w1 ⟨u,rfl,J,hu⟩;have U:=a6 (show _/\_/\_ from⟨J.cell id c1,J.cell id c5,J.cell id t0⟩);have S1:=a6 J;have HU:=a6 hu;clear J hu))
 clear c1 c5 t0;cases b with
 | true=>
  obtain rfl:=AX (show ad s1=ad s' from HR.out)
  go_wp2_with (go_at_call 19;refine(Ii ⟨_,_,_,H.out.still S1.out⟩ HQ.out).mono ?_;rintro e w2 ⟨rfl,he⟩;have E2:=a6 he;clear he)
  refine bodyPost_ret (results_none rfl _ _ _) rfl ?_;exact⟨rfl,GI.behind S1.out E2.out⟩
 | false=>
  have C:(if x==[99,117,114,118,101]then ck (few y.1.length)<|curve s1 y.1 else if x==[97,109,112]then(DB y.1).bind fun a=>Zf s1 a.1 a.2 else if x==[98,101,115,116]then ck (decide (3<=s1.nums.length))<|(Cz y.1 ⟨s1.nums.getD 0 0,s1.nums.getD 1 0,s1.nums.getD 2 0⟩).bind fun a=>Zf s1 a.1 a.2 else ABQ s1 y.1)=ad s':=HR.out
  have HA:=a6 (show(x==[99,117,114,118,101])=true->y.1.length<1099511627776/\curve s1 y.1=ad s' from fun e=>by
   rw[if_pos e]at C;obtain⟨q,r⟩:=AY C;exact⟨of_decide_eq_true q,r⟩)
  have HB:=a6 (show(x==[99,117,114,118,101])=false->(x==[97,109,112])=true->∃a,DB y.1=ad a/\Zf s1 a.1 a.2=ad s' from fun e e2=>by
   rw[if_neg (by rw[e];decide),if_pos e2]at C;exact AO C)
  have HC:=a6 (show(x==[99,117,114,118,101])=false->(x==[97,109,112])=false->(x==[98,101,115,116])=true->3<=s1.nums.length/\∃a,Cz y.1 ⟨s1.nums.getD 0 0,s1.nums.getD 1 0,s1.nums.getD 2 0⟩=ad a/\Zf s1 a.1 a.2=ad s' from fun e e2 e3=>by
   rw[if_neg (by rw[e];decide),if_neg (by rw[e2];decide),if_pos e3]at C;obtain⟨q,r⟩:=AY C;exact⟨of_decide_eq_true q,AO r⟩)
  have HD:=a6 (show(x==[99,117,114,118,101])=false->(x==[97,109,112])=false->(x==[98,101,115,116])=false->ABQ s1 y.1=ad s' from fun e e2 e3=>by
   rw[if_neg (by rw[e];decide),if_neg (by rw[e2];decide),if_neg (by rw[e3];decide)]at C;exact C)
  clear C HR
  go_wp2_with (first
   |(go_at_call 19;refine(Ii ⟨_,_,_,H.out.still S1.out⟩ HQ.out).mono ?_;rintro e w2 ⟨rfl,O1,a1,b1,x1,dc,db,v1,q1⟩;have A1:=a6 a1;have B1:=a6 b1;have X1:=a6 x1;have I:=a6 q1;have V1:=a6 (VR.ext HU.out x1 b1);clear a1 b1 x1 q1)
   |(go_at_call 91;refine(AFx ⟨_,_,_,I.out⟩ V1.out (HA.out (by assumption)).1 (HA.out (by assumption)).2).mono ?_;rintro e w3 ⟨rfl,he⟩;have E3:=a6 he;clear he)
   |(go_at_call 92;obtain⟨a,ha,R⟩:=HB.out (by assumption) (by assumption);have HS:=a6 R;clear R;refine(APe ha V1.out I.out.lo I.out.gt).mono ?_;rintro e w3 ⟨rfl,j⟩;have S3:=a6 j;clear j ha)
   |(go_at_call 50;refine(zH ⟨_,_,_,I.out.still S3.out⟩ HS.out).mono ?_;rintro e w4 ⟨rfl,he⟩;have E3:=a6 (GI.behind S3.out he);clear he)
   |(go_at_call 94;refine(ALS ⟨_,_,_,I.out⟩ V1.out (HD.out (by assumption) (by assumption) (by assumption))).mono ?_;rintro e w3 ⟨rfl,he⟩;have E3:=a6 he;clear he))
  all_goals first
   |(refine bodyPost_end (results_none rfl _ _ _) rfl ?_;exact⟨rfl,GI.behind S1.out (GI.then A1.out B1.out X1.out E3.out)⟩)
   |skip
  obtain⟨hk,a,ha,R⟩:=HC.out (by assumption) (by assumption) (by assumption);obtain⟨-,-,-,-,c4,-,-,-⟩:=I.out.cells;obtain⟨gn,cn,en,ln,ab⟩:=TC I.out n';rw[en]at c4;have n0:=ab 0 n';have n1:=ab 1 n';have n2:=ab 2 n';obtain⟨nn,a8⟩:∃n,n=s1.nums.length:=⟨_,rfl⟩;obtain⟨N0,e0⟩:∃x,s1.nums.getD 0 0=x:=⟨_,rfl⟩;obtain⟨N1,e1⟩:∃x,s1.nums.getD 1 0=x:=⟨_,rfl⟩;obtain⟨N2,e2⟩:∃x,s1.nums.getD 2 0=x:=⟨_,rfl⟩;rw[e0]at n0;rw[e1]at n1;rw[e2]at n2;rw[e0,e1,e2]at ha;rw[←a8]at c4 hk;have i0:0<nn:=n'
  have i1:(1:Int)<(nn:Int):=n'
  have i2:(2:Int)<(nn:Int):=n'
  have b9:=a6 ha;have HS:=a6 R;have ay:=a6 en;clear ha R e0 e1 e2 a8 ab en hk ln;have HK:=a6 (show(v1 0).ownBlock≠ad gn/\gn≠sb/\(v1 0).ownBlock≠ad sb from⟨fun c=>I.out.ne 0 1 x' gn c (by rw[ay.out];rfl),fun e=>I.out.neo 1 (by rw[ay.out,←e];rfl),I.out.neo 0⟩);clear U ay
  go_region_held3 (fun w'=>w'.cell? ⟨sb,4,au⟩=ad (.slice (ad ⟨gn,0,au⟩) nn cn)/\w'.cell? ⟨gn,0,au⟩=ad (.int .i64 N0)/\w'.cell? ⟨gn,1,au⟩=ad (.int .i64 N1)/\w'.cell? ⟨gn,2,au⟩=ad (.int .i64 N2)) (with_reducible first|exact U.out|exact⟨dr c4,dr n0,dr n1,dr n2⟩) (first
   |(go_at_call 93;refine(AMm b9.out V1.out I.out (AD.drew _ _)).mono ?_;rintro e w3 ⟨rfl,j⟩;have U:=a6 (show _/\_/\_/\_ from⟨j.cell id c4,j.cell id n0,j.cell id n1,j.cell id n2⟩);have S3:=a6 j;clear j)
   |(go_at_call 50;refine(zG (I.out.still S3.out) HS.out).mono ?_;rintro e w4 ⟨rfl,he,hk⟩;have hk:=Ys.behind S3.out hk;have U:=a6 (show _/\_/\_/\_ from⟨hk _ _ _ c4 HK.out.2.2 (fun _=>x'),hk _ _ _ n0 HK.out.1 (fun e=>absurd e HK.out.2.1),hk _ _ _ n1 HK.out.1 (fun e=>absurd e HK.out.2.1),hk _ _ _ n2 HK.out.1 (fun e=>absurd e HK.out.2.1)⟩);have E3:=a6 (GI.behind S3.out he);clear he hk))
  go_wp2
  refine bodyPost_end (results_none rfl _ _ _) rfl ?_;exact⟨rfl,GI.behind S1.out (GI.then A1.out B1.out X1.out E3.out)⟩
end Go.Proofs.YtegmpdmpgmpiaaaGreatDoor.l28
