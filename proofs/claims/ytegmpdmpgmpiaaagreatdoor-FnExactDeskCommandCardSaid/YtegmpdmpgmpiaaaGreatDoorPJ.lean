/- Lemmas. No condition. -/
import Derived.Test.YtegmpdmpgmpiaaaGreatDoorPN
open Go.Lib renaming hid->a7
set_option linter.defProp false
set_option linter.unusedSimpArgs false
set_option linter.unusedVariables false
set_option maxRecDepth 100000
set_option maxHeartbeats 8000000
namespace Go.Proofs.YtegmpdmpgmpiaaaGreatDoor.l28
open Go Go.RowKit plot rdc
variable{O:Nat->Prop}{w:World}
def agg3{a b c:Value}{x1 x2 j:AV}(J:VR O w a x1)(h2:VR O w b x2)(I:VR O w c j)(hs:[x1,x2,j].all AV.atom=true):VR O w (.agg #[a,b,c]) (.agg [x1,x2,j]):=by
 simp only[List.all_cons,List.all_nil,Bool.and_true,baT]at hs;refine .agg rfl (fun k C=>?_) (fun k C=>?_)
 .match k,C with
  |0,_=>exact hs.1
  |1,_=>exact hs.2.1
  |2,_=>exact hs.2.2
 .match k,C with
  |0,_=>exact J
  |1,_=>exact h2
  |2,_=>exact I
variable{sb:Nat}{s:GV}{L:L8}
def sO{I C:Value}{v:Fin 3->Value}{W:World}{e:AU}{y:L8×Int}(h:Fk L e=some y)(j:Q O sb I C v s w)(hs:AD C' w W):
  Calls Tryz.prog 85 #[.string ⟨L.toArray⟩,.agg #[.int .i64 e.Day,.string ⟨e.What.toArray⟩,.int .i64 e.Value]] W fun e w'=>e = .returned (.tuple #[.string ⟨y.1.toArray⟩,.int .i64 y.2])/\AD C' w w' :=
 (DR (O:=O) s_174.s Tryz.func85 rfl z' (args:=[.str L,Br e]) (vargs:=#[.string ⟨L.toArray⟩,.agg #[.int .i64 e.Day,.string ⟨e.What.toArray⟩,.int .i64 e.Value]]) rfl (by rw[AQA];rfl) rfl (hv2 .str (agg3 .int .str .int rfl)) (j.still hs).lo (j.still hs).gt (ANR h)).mono fun e w' ⟨u,U,h2,R⟩=>by
  obtain⟨a,rfl,J⟩:=tup2_inv R;cases J
  exact⟨U,hs.trans h2⟩
def qE{x:L8}{y:List Int×Int}(h:Em L x=some y)(lo:∀b,O b->b<w.heap.size)(gt:GT O w):
  Calls Tryz.prog 86 #[.string ⟨L.toArray⟩,.string ⟨x.toArray⟩] w fun e w'=>∃u,e = .returned (.tuple #[u,.int .i64 y.2])/\AD C' w w'/\VR O w' u (.sl 1 (List.map (AV.int .i64) y.1)) :=
 (DR s_176.s Tryz.func86 rfl z' (args:=[.str L,.str x]) (vargs:=#[.string ⟨L.toArray⟩,.string ⟨x.toArray⟩]) rfl (by rw[APz];rfl) rfl (hv2 .str .str) lo gt (ANQ h)).mono fun e w' ⟨u,I,h2,C⟩=>by
  obtain⟨a,rfl,j⟩:=tup2_inv C;exact⟨a,I,h2,j⟩
def AOI{l:List Int}{k:Int}{u:Value}(h:Jg l=some k)(j:VR O w u (.sl 1 (List.map (AV.int .i64) l)))(lo:∀b,O b->b<w.heap.size)(gt:GT O w):
  Calls Tryz.prog 87 #[u] w fun e w'=>e = .returned (.int .i64 k)/\AD C' w w' :=
 (DR s_186.s Tryz.func87 rfl z' (args:=[.sl 1 (List.map (AV.int .i64) l)]) (vargs:=#[u]) rfl (by rw[APs];rfl) rfl (hv1 j) lo gt (ANK h)).mono fun e w' ⟨u,I,h2,C⟩=>by cases C;exact⟨I,h2⟩
attribute [local irreducible] Calls in
def AFr{s':GV}(h:At O sb s w)(R:enter s=some s'):
  Calls Tryz.prog 51 #[.pointer (some ⟨sb,0,none⟩)] w fun e w'=>e = .returned (.tuple #[])/\GI O sb w s' w':=by
 obtain⟨hb,R⟩:=AY R;simp only[baT,dtE]at hb;obtain⟨bs,bo⟩:=hb;obtain⟨y,hy,R⟩:=AO R;obtain⟨⟨b,s1⟩,hq,R⟩:=AO R;obtain⟨va,vb,v,h⟩:=h;obtain⟨_,_,c2,_,c4,c5,_,_⟩:=h.cells;obtain⟨gn,cn,en,ln,U⟩:=TC h n';obtain⟨gt,ct,et,lt,az⟩:=Pp h n';rw[en]at c4;rw[et]at c5;have n0:=U 0 n';have n1:=U 1 n';have t0:=az 0 n';obtain⟨nn,ay⟩:∃n,n=s.nums.length:=⟨_,rfl⟩;obtain⟨nt,ax⟩:∃n,n=s.texts.length:=⟨_,rfl⟩;obtain⟨N0,e0⟩:∃x,s.nums.getD 0 0=x:=⟨_,rfl⟩;obtain⟨N1,e1⟩:∃x,s.nums.getD 1 0=x:=⟨_,rfl⟩;obtain⟨T0,e4⟩:∃x,s.texts.getD 0 []=x:=⟨_,rfl⟩;obtain⟨L,eL⟩:∃x,s.d.Log=x:=⟨_,rfl⟩;rw[e0]at n0 hy;rw[e1]at n1 hy;rw[e4]at t0 hy;rw[eL]at c2 hy;rw[←ay]at c4;rw[←ax]at c5;have i5:0<nt:=n'
 have i0:0<nn:=n'
 have i1:(1:Int)<(nn:Int):=n'
 have H:=a7 h;have HY:=a7 hy;have HQ:=a7 hq;have HR:=a7 R;clear h hy hq R U az e0 e1 e4 eL ay ax bs bo en et
 go_enter Tryz.func51,Tryz.ntmps51
 go_wp2
 go_region_held3 (fun w'=>w'.cell? ⟨sb,2,none⟩=some (.string ⟨L.toArray⟩)/\w'.cell? ⟨sb,4,none⟩=some (.slice (some ⟨gn,0,none⟩) nn cn)/\w'.cell? ⟨sb,5,none⟩=some (.slice (some ⟨gt,0,none⟩) nt ct)/\w'.cell? ⟨gt,0,none⟩=some (.string ⟨T0.toArray⟩)/\w'.cell? ⟨gn,0,none⟩=some (.int .i64 N0)/\w'.cell? ⟨gn,1,none⟩=some (.int .i64 N1)) (with_reducible first|exact b6.out|exact⟨dr c2,dr c4,dr c5,dr t0,dr n0,dr n1⟩) (first
  |(go_at_call 85;refine(sO HY.out H.out (AD.drew _ _)).mono ?_;rintro e w1 ⟨rfl,C⟩;have b6:=a7 (show _/\_/\_/\_/\_/\_ from⟨C.cell id c2,C.cell id c4,C.cell id c5,C.cell id t0,C.cell id n0,C.cell id n1⟩);have S1:=a7 C;clear C))
 clear c2 c4 c5 t0 n0 n1;cases b with
 | true=>
  obtain rfl:=AX (show some s1=some s' from HR.out)
  go_wp2_with (go_at_call 19;refine(Ii ⟨_,_,_,H.out.still S1.out⟩ HQ.out).mono ?_;rintro e w2 ⟨rfl,he⟩;have E2:=a7 he;clear he)
  refine bodyPost_ret (results_none rfl _ _ _) rfl ?_;exact⟨rfl,GI.behind S1.out E2.out⟩
 | false=>
  obtain⟨z,hz,I⟩:=AO (show(Em y.1 (s1.texts.getD 0 [])).bind (fun v=>(Jg v.1).bind fun n=>(BE n).bind fun t=>ck (decide (1<=s1.texts.length))<|Nq { s1 with d:={ s1.d with Log:=y.1 } } t)=some s' from HR.out);obtain⟨m,hm,I⟩:=AO I;obtain⟨t,ht,I⟩:=AO I;obtain⟨hk,au⟩:=AY I;have hk:1<=s1.texts.length:=of_decide_eq_true hk;obtain⟨T1,e5⟩:∃x,s1.texts.getD 0 []=x:=⟨_,rfl⟩;rw[e5]at hz;have b8:=a7 e5;have ab:=a7 hk;have HZ:=a7 hz;have HM:=a7 hm;have HT:=a7 ht;have HS:=a7 au;clear hz hm ht au HR I e5
  go_wp2_with (first
   |(go_at_call 19;refine(Ii ⟨_,_,_,H.out.still S1.out⟩ HQ.out).mono ?_;rintro e w2 ⟨rfl,O1,a1,b1,x1,dx,dw,v1,J⟩;obtain⟨_,_,d2,_,_,d5,_,df⟩:=J.cells;have ed:=df 2;obtain⟨g2,k2,e2,l2,a6⟩:=Pp J ab.out;have p0:=a6 0 ab.out;rw[e2]at d5;rw[b8.out]at p0;have j5:0<s1.texts.length:=ab.out;have ea:=J.lt;have A1:=a7 a1;have B1:=a7 b1;have X1:=a7 x1;have bh:g2≠sb:=(fun e=>J.neo 2 (by rw[e2,←e];rfl));have ef:=se (c:=sb) (k:=2) (u:=.string ⟨y.1.toArray⟩) p0 bh;have E3:=a7 (J.cell (s':={ s1 with d:={ s1.d with Log:=y.1 } }) (u:=.string ⟨y.1.toArray⟩) 2 rfl (fun j=>by match j with|0=>rfl|1=>rfl|2=>rfl) J.sa J.se);clear df a1 b1 x1 J a6 e2)
   |(go_at_call 86;obtain⟨O2,a2,b2,x2,q2⟩:=E3.out;have A2:=a7 a2;have B2:=a7 b2;have X2:=a7 x2;have Q2:=a7 q2;clear a2 b2 x2 q2;refine(qE HZ.out Q2.out.lo Q2.out.gt).mono ?_;rintro e w4 ⟨u,rfl,ao,hu⟩;have S4:=a7 ao;have HU:=a7 hu;clear ao hu)
   |(go_at_call 87;refine(AOI HM.out HU.out (Q2.out.still S4.out).lo (Q2.out.still S4.out).gt).mono ?_;rintro e w5 ⟨rfl,aj⟩;have S5:=a7 (S4.out.trans aj);clear aj)
   |(go_at_call 84;refine(jX HT.out (Q2.out.still S5.out).lo (Q2.out.still S5.out).gt).mono ?_;rintro e w6 ⟨rfl,ae⟩;have S6:=a7 (S5.out.trans ae);clear ae)
   |(go_at_call 21;refine(Zq (Q2.out.still S6.out) HS.out).mono ?_;rintro e w7 ⟨rfl,he⟩;have E7:=a7 he;clear he))
  refine bodyPost_end (results_none rfl _ _ _) rfl ?_;exact⟨rfl,GI.behind S1.out (GI.then A1.out B1.out X1.out (GI.then A2.out B2.out X2.out (GI.behind S6.out E7.out)))⟩
end Go.Proofs.YtegmpdmpgmpiaaaGreatDoor.l28
