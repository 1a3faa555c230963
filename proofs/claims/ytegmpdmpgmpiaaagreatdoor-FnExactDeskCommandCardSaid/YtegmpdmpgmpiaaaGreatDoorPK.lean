/- Lemmas. No condition. -/
import Derived.Test.YtegmpdmpgmpiaaaGreatDoorPO
open Go.Lib renaming hid->a8
open Option renaming some->aj,none->ao
set_option linter.defProp false
set_option linter.unusedSimpArgs false
set_option linter.unusedVariables false
set_option maxRecDepth 100000
set_option maxHeartbeats 8000000
open Go.IntKind (i64 u64)
namespace Go.Proofs.YtegmpdmpgmpiaaaGreatDoor.l28
open Go Go.RowKit plot rdc
def AEI{O:Nat->Prop}{w:World}{x:L8}{c:UInt8}{y:List L8}(h:ER x c=aj y)(lo:∀b,O b->b<w.heap.size)(gt:GT O w):
    Calls Tryz.prog 18 #[.string ⟨x.toArray⟩,.int .u8 (c.toNat:Int)] w fun e w'=>∃u,e = .returned u/\AD C' w w'/\VR O w' u (.sl 1 (List.map AV.str y)) :=
  (DR s_168.s Tryz.func18 rfl z' (args:=[.str x,.int .u8 (c.toNat:Int)]) (vargs:=#[.string ⟨x.toArray⟩,.int .u8 (c.toNat:Int)]) rfl (by rw[AQD];rfl) rfl (hv2 .str .int) lo gt (sZ h)).mono fun e w' ⟨u,C,h2,j⟩=>⟨u,C,h2,j⟩
def ALR{O:Nat->Prop}{w:World}{x y:L8}(h:Bz x=aj y)(lo:∀b,O b->b<w.heap.size)(gt:GT O w):
    Calls Tryz.prog 44 #[.string ⟨x.toArray⟩] w fun e w'=>e = .returned (.string ⟨y.toArray⟩)/\AD C' w w' :=
  (DR s_180.s Tryz.func44 rfl z' (args:=[.str x]) (vargs:=#[.string ⟨x.toArray⟩]) rfl (by rw[APw];rfl) rfl (hv1 .str) lo gt (ANO h)).mono fun e w' ⟨u,C,h2,j⟩=>by cases j;exact⟨C,h2⟩
section
variable {O:Nat->Prop}{sb:Nat}{va vb:Value}{v:Fin 3->Value}{s:GV}{w:World}
def Q.new(h:Q O sb va vb v s w)(i:Fin 3){s':GV}(R:xs s' i=[])(C:∀j,j≠i->xs s' j=xs s j)(hd:s'.d=s.d)(J:s'.faint=s.faint):
    GI O sb w s' ((w.alloc (.cells #[] (ty i))).setCell ⟨sb,3+i.val,ao⟩ (.slice (aj ⟨w.heap.size,0,ao⟩) 0 0)) :=
  h.put i (AD.alloc _ w _) (by rw[R];exact Qj (kH w) (Nat.zero_le _)) (fun g I=>.inr (by have e:w.heap.size=g:=Option.some.inj I;omega)) C hd J
def Q.nums0(h:Q O sb va vb v s w):GI O sb w { s with nums:=[] } ((w.alloc (.cells #[] 2)).setCell ⟨sb,4,ao⟩ (.slice (aj ⟨w.heap.size,0,ao⟩) 0 0)) :=
  h.new 1 (s':={ s with nums:=[] }) rfl (fun j C=>by match j,C with|0,_=>rfl|2,_=>rfl|1,h=>exact absurd rfl h) rfl rfl
def Q.texts0(h:Q O sb va vb v s w):GI O sb w { s with texts:=[] } ((w.alloc (.cells #[] 9)).setCell ⟨sb,5,ao⟩ (.slice (aj ⟨w.heap.size,0,ao⟩) 0 0)) :=
  h.new 2 (s':={ s with texts:=[] }) rfl (fun j C=>by match j,C with|0,_=>rfl|1,_=>rfl|2,h=>exact absurd rfl h) rfl rfl
def Q.faint0(h:Q O sb va vb v s w):GI O sb w { s with faint:=false } (w.setCell ⟨sb,6,ao⟩ (.bool false)) :=
  h.cell (s':={ s with faint:=false }) 6 rfl (fun j=>by match j with|0=>rfl|1=>rfl|2=>rfl) h.sa h.se
variable{b k:Nat}{u:Value}
def szS{w:World}:(w.setCell ⟨b,k,ao⟩ u).heap.size=w.heap.size:=by unfold World.setCell;simp
variable{o:Obj}
def szA{w:World}:(w.alloc o).heap.size=w.heap.size+1:=by unfold World.alloc;simp
def AAH{w:World}(h:b<w.heap.size):(w.alloc o).setCell ⟨b,k,ao⟩ u=(w.setCell ⟨b,k,ao⟩ u).alloc o:=World.setCell_alloc_past o b k u h
def Q.reset(h:Q O sb va vb v s w):GI O sb w { s with nums:=[],texts:=[],faint:=false }
    (((((w.setCell ⟨sb,4,ao⟩ (.slice (aj ⟨w.heap.size,0,ao⟩) 0 0)).setCell ⟨sb,5,ao⟩ (.slice (aj ⟨w.heap.size+1,0,ao⟩) 0 0)).setCell ⟨sb,6,ao⟩ (.bool false)).alloc (.cells #[] 2)).alloc (.cells #[] 9)):=by
  have U:=h.lt;obtain⟨O1,a1,b1,x1,J,C,v1,R⟩:=h.nums0;obtain⟨O2,a2,b2,x2,I,j,v2,q2⟩:=R.texts0;have e:=GI.then a1 b1 x1 (GI.then a2 b2 x2 q2.faint0);rw[szS,szA,AAH U,AAH (by simp only[szS,szA];omega),AAH (by simp only[szS,szA];omega),AAH (by simp only[szS,szA];omega),AAH (by simp only[szS,szA];omega)]at e;exact e
end
attribute [local irreducible] Calls in
def do_c{O:Nat->Prop}{sb:Nat}{s:GV}{w:World}{line:L8}{r:Bool×GV}(h:At O sb s w)(I:doL s line=aj r):
    Calls Tryz.prog 20 #[.pointer (aj ⟨sb,0,ao⟩),.string ⟨line.toArray⟩] w fun e w'=>e = .returned (.bool r.1)/\GI O sb w r.2 w':=by
  obtain⟨ws,hw,I⟩:=AO I;obtain⟨hk,I⟩:=AY I;simp only[baT,dtE]at hk;obtain⟨h0,hf⟩:=hk;have hf:ws.length<1099511627776:=of_decide_eq_true hf;obtain⟨form,bs,I⟩:=AO I;obtain⟨va,vb,v,h⟩:=h;obtain⟨X,hX⟩:∃x,ws.getD 0 []=x:=⟨_,rfl⟩;rw[hX]at bs
  have b9:(form==[45]||((form.length:Int) != (ws.length:Int)-1))=true->r=(false,s):=fun e=>by
    rw[if_pos (show(form==[45] || !((form.length:Int)==(ws.length:Int)-1))=true from e)]at I;exact(AX I).symm
  have az:=(show ¬ (form==[45]||((form.length:Int) != (ws.length:Int)-1))=true->_ from fun e=>by
    rw[if_neg (show ¬ (form==[45] || !((form.length:Int)==(ws.length:Int)-1))=true from e)]at I;exact I)
  have H:=a8 h;have HW:=a8 hw;have HF:=a8 bs;have HX:=a8 hX;have H0:=a8 h0;have HN:=a8 b9;have HY:=a8 az;clear h hw bs hX h0 I b9 az;have hz:=H.out.lt
  go_enter Tryz.func20,Tryz.ntmps20
  go_wp2_with (first
    |(go_at_call 18;refine(AEI (c:=32) HW.out H.out.lo H.out.gt).mono ?_;rintro e w1 ⟨u,rfl,b7,hu⟩;obtain⟨b,off,cap,rfl,hb,hO,b0,fi⟩:=words_of hu H0.out;have x0:w1.cell? ⟨b,off,ao⟩=aj (.string ⟨X.toArray⟩):=(b0 0 H0.out).trans (congrArg (fun z=>aj (strV z)) HX.out);have S1:=a8 b7;have b4:=a8 (And.intro hb b0);have n0:=H0.out;clear b7 hu b0)
    |(go_at_call 44;refine(ALR HF.out (H.out.still S1.out).lo (H.out.still S1.out).gt).mono ?_;rintro e w2 ⟨rfl,U⟩;have a7:=b4.out.2.same U b4.out.1 id;have eg:b<w2.heap.size:=Nat.lt_of_lt_of_le hb U.size;have ad:=a8 (And.intro eg a7);have S2:=a8 (S1.out.trans U);obtain⟨-,-,-,-,c4,c5,c6,cf⟩:=(H.out.still (S1.out.trans U)).cells;have e4:=cf 4;have e3:=cf 5;have e2:=cf 6;have ht:sb<w2.heap.size:=(H.out.still (S1.out.trans U)).lt;clear U a7 x0 cf b4))
  all_goals first
    | (have hn:r=(false,s):=HN.out (by rw[Bool.or_eq_true];first|assumption|simp[*])
       subst hn
       go_ret
       exact⟨rfl,GI.still ⟨_,_,_,H.out⟩ S2.out⟩)
    |skip
  have ax:(form==[45])=false/\((form.length:Int) != (ws.length:Int)-1)=false:=by assumption
  obtain⟨q,hq,I⟩:=AO (HY.out (by rw[Bool.or_eq_true,ax.1,ax.2];simp));have hlen:form.length+1=ws.length:=by have:=ax.2;simp only[bne_eq_false_iff_eq]at this;omega
  have HR:=a8 I;have E0:=a8 (Q.reset (H.out.still S2.out));obtain⟨w3,b6⟩:∃x,x=(((((w2.setCell ⟨sb,4,ao⟩ (.slice (aj ⟨w2.heap.size,0,ao⟩) 0 0)).setCell ⟨sb,5,ao⟩ (.slice (aj ⟨w2.heap.size+1,0,ao⟩) 0 0)).setCell ⟨sb,6,ao⟩ (.bool false)).alloc (.cells #[] 2)).alloc (.cells #[] 9)):=⟨_,rfl⟩;rw[←b6]at E0 ⊢;have HQ:=a8 hq;obtain⟨n,hn⟩:∃n,n=form.length:=⟨_,rfl⟩;have HL:=a8 hlen;have J:=a8 hn;clear HY HN ax I hq c4 c5 c6 e4 e3 e2 b6 hlen
  go_loopw [7] (fun i wr=>∃(j:Nat) (sj:GV),j<=n/\i = .int .i64 j/\Hid (GI O sb w2 sj wr)/\Hid (Lk (form.drop j) (ws.drop (j+1)) sj=aj q)) (fun i _=>n-(intOf i).toNat)
  case atStart=>exact⟨0,_,Nat.zero_le _,rfl,E0,by simpa using HQ⟩
  case round=>
    obtain⟨j,sj,hj,rfl,he,hq⟩:=hrel;obtain⟨O1,a1,b1,x1,h1⟩:=he.out;have A1:=a8 a1;have B1:=a8 b1;have X1:=a8 x1;have H1:=a8 h1;have ek:¬ O1 b:=fun c=>(b1 b c).elim hO (by have:=ad.out.1;omega)
    by_cases ef:j<n
    · have C:=hq.out;rw[WI (l:=form) (by rw[←J.out];exact ef),WI (l:=ws) (j:=j+1) (by have:=HL.out;rw[←J.out]at this;omega),Lk]at C;obtain⟨aa,C⟩:=AY C;have aa:=of_decide_eq_true aa;obtain⟨⟨ok,s2⟩,au,C⟩:=AO C;have x0:=x1.cell hO (ad.out.2 (j+1) (by have:=HL.out;rw[←J.out]at this;omega));obtain⟨Y,hY⟩:∃y,ws.getD (j+1) default=y:=⟨_,rfl⟩;obtain⟨F,hF⟩:∃y,form.getD j default=y:=⟨_,rfl⟩;rw[hY]at x0 au aa;rw[hF]at au;have e5:=a8 aa;have e7:=a8 au;have c7:=a8 C;have j0:(0:Int)<=(j:Int):=n'
      have j1:(j:Int)<(form.length:Int):=by have:=J.out;omega
      have k0:(0:Int)<=(j:Int)+1:=n'
      have k1:(j:Int)+1<(ws.length:Int):=by have:=HL.out;have:=J.out;omega
      have k2:i64.wrap ((j:Int)+1)=(j:Int)+1:=Z1 n';have x0:wr.cell? ⟨b,off+(j+1),ao⟩=aj (.string ⟨Y.toArray⟩):=x0;clear a1 b1 x1 h1 aa au C hq he hY;have bo:j<form.length:=by have:=J.out;omega
      have cb:j<(⟨form.toArray⟩:ByteArray).size:=by simpa[ByteArray.size]using bo
      have cc:(⟨form.toArray⟩:ByteArray)[j]'cb=F:=by
        rw[←hF,gdE,geE bo];rfl
      have ct:=a8 (show word sj ((⟨form.toArray⟩:ByteArray)[j]'cb) Y=aj (ok,s2)from cc.symm▸e7.out);clear hF cc bo
      go_wp2
      go_region_held3 (fun w'=>w'.cell? ⟨b,off+(j+1),ao⟩=aj (.string ⟨Y.toArray⟩)) (with_reducible first|exact ay.out|exact dr x0) (first
        |(go_at_call 45;refine(AKI (H1.out.still (AD.drew _ _)) e5.out ct.out).mono ?_;rintro e w4 ⟨rfl,O2,a2,b2,x2,h2⟩;have A2:=a8 a2;have B2:=a8 b2;have X2:=a8 x2;have H2:=a8 h2;have ay:=a8 (x2.cell ek (dr x0));clear a2 b2 x2 h2))
      cases ok with
      | true=>
        go_wp2
        go_roundw
        case rel=>exact⟨j+1,n',by go_num,s2,a8 (GI.then A1.out B1.out X1.out (GI.behind (AD.drew _ _) ⟨O2,A2.out,B2.out,X2.out,H2.out⟩)),a8 (show Lk (form.drop (j+1)) (ws.drop (j+1+1)) s2=aj q from c7.out)⟩
        case measure=>simp[intOf];omega
      | false=>
        obtain rfl:=AX (show aj (false,s2)=aj q from c7.out);obtain⟨⟨b3,s3⟩,a6,I⟩:=AO (show(JD s2 7).bind (fun r=>aj (true,r.2))=aj r from HR.out);obtain rfl:=AX I;have cw:=a8 a6;clear a6 I
        go_wp2_with (go_at_call 19;refine(Ii H2.out cw.out).mono ?_;rintro e w5 ⟨rfl,cd⟩;have E5:=a8 cd;clear cd)
        go_ret
        exact⟨rfl,GI.behind S2.out (GI.then A1.out B1.out X1.out (GI.behind (AD.drew _ _) (GI.then A2.out B2.out X2.out E5.out)))⟩
    · obtain rfl:j=n:=n'
      have C:=hq.out;rw[J.out,List.drop_length,Lk]at C;obtain rfl:=AX C;obtain⟨s9,ab,I⟩:=AO (show(WK sj (ws.getD 0 [])).bind (fun s=>aj (true,s))=aj r from HR.out);obtain rfl:=AX I;rw[HX.out]at ab;have HC:=a8 ab;have x0:wr.cell? ⟨b,off,ao⟩=aj (.string ⟨X.toArray⟩):=(x1.cell hO (ad.out.2 0 H0.out)).trans (congrArg (fun z=>aj (strV z)) HX.out);have n0:=H0.out;clear hq C ab I a1 b1 x1 h1
      go_wp2_with (first
      |(go_at_call 46;refine(AKP H1.out (by have z:=HC.out;unfold WK at z;simp only[*,bfT,↓reduceIte]at z;exact z)).mono ?_;rintro e w4 ⟨rfl,he⟩;have E4:=a8 he;clear he)
      |(go_at_call 47;refine(APT H1.out (by have z:=HC.out;unfold WK at z;simp only[*,bfT,↓reduceIte]at z;exact z)).mono ?_;rintro e w4 ⟨rfl,he⟩;have E4:=a8 he;clear he)
      |(go_at_call 48;refine(ALH H1.out (by have z:=HC.out;unfold WK at z;simp only[*,bfT,↓reduceIte]at z;exact z)).mono ?_;rintro e w4 ⟨rfl,he⟩;have E4:=a8 he;clear he)
      |(go_at_call 51;refine(AFr H1.out (by have z:=HC.out;unfold WK at z;simp only[*,bfT,↓reduceIte]at z;exact z)).mono ?_;rintro e w4 ⟨rfl,he⟩;have E4:=a8 he;clear he)
      |(go_at_call 52;refine(AOg H1.out (by have z:=HC.out;unfold WK at z;simp only[*,bfT,↓reduceIte]at z;exact z)).mono ?_;rintro e w4 ⟨rfl,he⟩;have E4:=a8 he;clear he)
      |(go_at_call 53;refine(AGc H1.out (by have z:=HC.out;unfold WK at z;simp only[*,bfT,↓reduceIte]at z;exact z)).mono ?_;rintro e w4 ⟨rfl,he⟩;have E4:=a8 he;clear he))
      all_goals first
        | (go_ret
           exact⟨rfl,GI.behind S2.out (GI.then A1.out B1.out X1.out E4.out)⟩)
        |skip
      have z:=HC.out;unfold WK at z;simp only[*,bfT,↓reduceIte]at z;obtain⟨hk,z⟩:=AY z;obtain⟨y,hy,b8⟩:=AO z;have hk:2<=sj.nums.length:=of_decide_eq_true hk;obtain⟨hl,hh,v1,q1⟩:=H1.out;obtain⟨-,c1,-,-,c4,-,-,-⟩:=q1.cells;obtain⟨gn,cn,en,ln,bz⟩:=TC q1 n';rw[en]at c4;have m0:=bz 0 n';have m1:=bz 1 n';obtain⟨nn,ca⟩:∃n,n=sj.nums.length:=⟨_,rfl⟩;obtain⟨N0,e0⟩:∃x,sj.nums.getD 0 0=x:=⟨_,rfl⟩;obtain⟨N1,e1⟩:∃x,sj.nums.getD 1 0=x:=⟨_,rfl⟩;rw[e0]at m0;rw[e1]at m1;rw[e0,e1]at hy;rw[←ca]at c4 hk;have i0:0<nn:=n'
      have i1:(1:Int)<(nn:Int):=n'
      have e9:=a8 hy;have HS:=a8 b8;have Q1:=a8 q1;obtain⟨ae,me,ke,rfl⟩:=sl_of q1.se;clear z hy b8 e0 e1 ca bz en hk ln q1 x0 HC
      go_region_held3 (fun w'=>w'.cell? ⟨sb,1,ao⟩=aj (.slice ae me ke)/\w'.cell? ⟨sb,4,ao⟩=aj (.slice (aj ⟨gn,0,ao⟩) nn cn)/\w'.cell? ⟨gn,0,ao⟩=aj (.int .i64 N0)/\w'.cell? ⟨gn,1,ao⟩=aj (.int .i64 N1)) (with_reducible first|exact ay.out|exact⟨dr c1,dr c4,dr m0,dr m1⟩) (first
        |(go_at_call 49;refine(AEc e9.out Q1.out (AD.drew _ _)).mono ?_;rintro e w4 ⟨pp,pc,rfl,R⟩;have ay:=a8 (show _/\_/\_/\_ from⟨R.cell id c1,R.cell id c4,R.cell id m0,R.cell id m1⟩);have S4:=a8 R;clear R))
      clear c1 c4 m0 m1 ay
      go_wp2_with (go_at_call 50;refine(zH ⟨_,_,_,Q1.out.still S4.out⟩ HS.out).mono ?_;rintro e w5 ⟨rfl,he⟩;have E4:=a8 (GI.behind S4.out he);clear he)
      go_ret
      exact⟨rfl,GI.behind S2.out (GI.then A1.out B1.out X1.out E4.out)⟩
end Go.Proofs.YtegmpdmpgmpiaaaGreatDoor.l28
