/- Lemmas. No condition. -/
import Derived.Test.YtegmpdmpgmpiaaaGreatDoorPQ
open And renaming intro->bR
open Bool renaming false_ne_true->bX
open Go.Act renaming put->bI
open Go.Lib renaming hid->ae
open Go.Value renaming int->bS
open Inhabited renaming default->b4
open List renaming setIfInBounds_toArray->a7,set_cons_zero->a8,set_cons_succ->ad,map->b'
open Option renaming some->a',none->bN
set_option linter.defProp false
set_option linter.unusedSimpArgs false
set_option linter.unusedVariables false
set_option maxRecDepth 100000
set_option maxHeartbeats 8000000
namespace Go.Proofs.YtegmpdmpgmpiaaaGreatDoor.dsk
open Go Go.RowKit plot rdc
def In{k n:Nat}{α:Type}{x:Option α}{y:α}(h:ck (AS (k:Int) n) x=a' y):k<n/\x=a' y:=by
 obtain⟨j,h2⟩:=AY h;exact⟨by simpa[AS]using j,h2⟩
variable{w:World}{j:Nat}
def dr{b:Nat}{v:Value}(h:w.cell? ⟨b,j,bN⟩=a' v):w.drew.cell? ⟨b,j,bN⟩=a' v:=h
variable{w':World}
def gS(j:GT C' w)(hs:AD C' w w'):GT C' w':=j.mono hs fun _ _=>id
def gF(C:GT (fun x=>x=j) w)(hs:AD (fun x=>x=j) w w'):GT C' w':=(C.mono hs fun _ _=>id).mono (AD.refl _ _) fun _ _ c=>c.elim
variable{N ba:Nat}{va:Value}{d:Ad}
def Dk.done{R ca bb cb bo co:Nat}{U I:Value}{o:List L8}{k:Int}{C w2:World}(h:Dk N R va U d ba ca bb cb C)(hs:AD (fun x=>x=R) w C)(j:AD C' C w2)(J:Own C.heap.size 1 w2 I (b' AV.str o) bo co):
  pz N R w o k d (.returned (.tuple #[I,.int .i64 k])) w2 :=
 ⟨va,U,ba,ca,bb,cb,I,bo,co,rfl,hs.trans (j.mono fun _ _ c=>c.elim),h.still j,J.mono hs.size,fun p=>⟨fun q e=>by have:=J.ge p;have:=h.sa.lt q;omega,fun q e=>by have:=J.ge p;have:=h.sb.lt q;omega⟩⟩
def ABu{d:Ad}{c:Cm}{y:List L8×Int×Ad}(j:DE d c=a' y)(e:(c.words_.getD 0 b4==[115,116,97,114])=true):∃I J C,1<c.words_.length/\5<c.numbers_.length/\Fo d.Stars ⟨c.words_.getD 1 b4,c.numbers_.getD 2 b4,c.numbers_.getD 3 b4,c.numbers_.getD 4 b4,c.numbers_.getD 5 b4⟩=a' I/\DD { d with Stars:=I.1 }=a' J/\DY J I.2=a' C/\y=(C.1,C.2,{ d with Stars:=I.1 }):=by
 obtain⟨_,j⟩:=In (k:=0) j;rw[if_pos e]at j;obtain⟨k1,j⟩:=In (k:=1) j;obtain⟨_,j⟩:=In (k:=2) j;obtain⟨_,j⟩:=In (k:=3) j;obtain⟨_,j⟩:=In (k:=4) j;obtain⟨U,j⟩:=In (k:=5) j;obtain⟨I,h8,j⟩:=AO j;obtain⟨J,h9,j⟩:=AO j;obtain⟨C,R,j⟩:=AO j;exact⟨I,J,C,k1,U,h8,h9,R,(AX j).symm⟩
def AGD{d:Ad}{c:Cm}{y:List L8×Int×Ad}(j:DE d c=a' y)(e0:(c.words_.getD 0 b4==[115,116,97,114])=false)(e:(c.words_.getD 0 b4==[101,115,116])=true):∃b,2<c.words_.length/\EC d.Stars (c.words_.getD 2 b4)=a' b/\(b=false->y=([],3,d))/\(b=true->∃I J C,3<c.words_.length/\4<c.numbers_.length/\Ce d.Estimates ⟨c.numbers_.getD 1 b4,c.words_.getD 2 b4,c.words_.getD 3 b4,c.numbers_.getD 4 b4,c.fainter_⟩=a' I/\DD { d with Estimates:=I.1 }=a' J/\DY J I.2=a' C/\y=(C.1,C.2,{ d with Estimates:=I.1 })):=by
 obtain⟨_,j⟩:=In (k:=0) j;rw[if_neg (by rw[e0];exact bX),if_pos e]at j;obtain⟨k2,j⟩:=In (k:=2) j;obtain⟨b,hb,j⟩:=AO j;refine⟨b,k2,hb,fun e=>?_,fun e=>?_⟩
 .subst e;exact(AX (show a' _=a' y from j)).symm
 .subst e;have j:=show ck (AS 1 c.numbers_.length) _=a' y from j
  obtain⟨_,j⟩:=In (k:=1) j;obtain⟨k3,j⟩:=In (k:=3) j;obtain⟨U,j⟩:=In (k:=4) j;obtain⟨I,h8,j⟩:=AO j;obtain⟨J,h9,j⟩:=AO j;obtain⟨C,R,j⟩:=AO j;exact⟨I,J,C,k3,U,h8,h9,R,(AX j).symm⟩
def AGC{d:Ad}{c:Cm}{y:List L8×Int×Ad}(j:DE d c=a' y)(e0:(c.words_.getD 0 b4==[115,116,97,114])=false)(e1:(c.words_.getD 0 b4==[101,115,116])=false):∃z,2<c.words_.length/\3<c.numbers_.length/\Du d.Log ⟨c.numbers_.getD 1 b4,c.words_.getD 2 b4,c.numbers_.getD 3 b4⟩=a' z/\(z.2≠0->y=([],z.2,{ d with Log:=z.1 }))/\(z.2=0->∃I R J C,Ds z.1 (c.words_.getD 2 b4)=a' I/\Hp I.1=a' R/\Av R=a' J/\DY J I.2=a' C/\y=(C.1,C.2,{ d with Log:=z.1 })):=by
 obtain⟨_,j⟩:=In (k:=0) j;rw[if_neg (by rw[e0];exact bX),if_neg (by rw[e1];exact bX)]at j;obtain⟨_,j⟩:=In (k:=1) j;obtain⟨k2,j⟩:=In (k:=2) j;obtain⟨U,j⟩:=In (k:=3) j;obtain⟨z,hz,j⟩:=AO j;refine⟨z,k2,U,hz,fun e=>?_,fun e=>?_⟩
 .rw[if_pos (by simpa using e)]at j;exact(AX j).symm
 .rw[if_neg (by simp[e])]at j;obtain⟨I,h6,j⟩:=AO j;obtain⟨R,h7,j⟩:=AO j;obtain⟨J,h8,j⟩:=AO j;obtain⟨C,h9,j⟩:=AO j;exact⟨I,R,J,C,h6,h7,h8,h9,(AX j).symm⟩
attribute [local irreducible] Calls in
def ABv{I ca bb cb:Nat}{vb vw vn:Value}{c:Cm}{y:List L8×Int×Ad}(hr:DE d c=a' y)(h:Dk N I va vb d ba ca bb cb w)(hN:N<=w.heap.size)
  (hw:VR (fun x=>x=I) w vw (.sl 1 (b' AV.str c.words_))) (hn:VR (fun x=>x=I) w vn (.sl 1 (b' (AV.int .i64) c.numbers_))) (hg:GT (fun x=>x=I) w) :
  Calls Tryz.prog 104 #[.pointer (a' ⟨I,0,bN⟩),.agg #[vw,vn,.bool c.fainter_,.bool c.wrong_]] w (pz N I w y.1 y.2.1 y.2.2):=by
 obtain⟨h0,_⟩:=In (k:=0) hr;obtain⟨b,off,cap,rfl,hb,hO,df,e9⟩:=words_of hw h0;obtain⟨X,hX⟩:∃x,c.words_.getD 0 b4=x:=⟨_,rfl⟩;have hA:=@ABu d c y hr;have hB:=@AGD d c y hr;have hC:=@AGC d c y hr;rw[hX]at hA hB hC;have x0:w.cell? ⟨b,off,bN⟩=a' (.string ⟨X.toArray⟩):=(df 0 h0).trans (congrArg (fun z=>a' (strV z)) hX);obtain⟨n1,n2,n3,rfl⟩:=l28.sl_of hn;obtain⟨nw,dc⟩:∃n,n=c.words_.length:=⟨_,rfl⟩;rw[←dc]at h0 hA hB hC ⊢;have W:=fun k (hk:k<c.words_.length) (T:L8) (e:c.words_.getD k b4=T)=>(df k hk).trans (congrArg (fun z=>a' (strV z)) e)
 have M:=fun(hk:0<c.numbers_.length)=>ZM hn hk
 obtain⟨nn,e5⟩:∃n,n=c.numbers_.length:=⟨_,rfl⟩;rw[←e5]at hA hB hC M;rw[←dc]at W;have S1:=ae (AD.alloc C' w (.cells #[.slice (a' ⟨b,off,bN⟩) nw cap,.slice n1 n2 n3,.bool c.fainter_,.bool c.wrong_] 91));have H:=ae h;have HA:=ae hA;have HB:=ae hB;have HC:=ae hC;have HW:=ae W;have HM:=ae M;have HG:=ae hg;have b9:=ae (hg.mono (S1.out.mono fun _ _ c=>c.elim) fun _ _ c=>c);have fi:¬ w.heap.size=I:=fun e=>by have:=h.lt;omega
 have hy:I<w.heap.size+1:=by have:=h.lt;omega
 obtain⟨a1,a2,a3,rfl⟩:=h.sa.slice;obtain⟨e1,e2,e3,rfl⟩:=h.sb.slice;clear h hn hg hr hX df hw e9 dc e5 hA hB hC W M
 go_enter Tryz.func104,Tryz.ntmps104
 go_wp2
 all_goals
  obtain⟨w1,bs⟩:∃x,x=w.alloc (.cells #[.slice (a' ⟨b,off,bN⟩) nw cap,.slice n1 n2 n3,.bool c.fainter_,.bool c.wrong_] 91):=⟨_,rfl⟩;have k0:w1.cell? ⟨w.heap.size,0,bN⟩=a' (.slice (a' ⟨b,off,bN⟩) nw cap):=by rw[bs];unfold World.cell?;rw[heap_alloc_new];rfl
  have k2:w1.cell? ⟨w.heap.size,2,bN⟩=a' (.bool c.fainter_):=by rw[bs];unfold World.cell?;rw[heap_alloc_new];rfl
  have hv:w1.heap.size=w.heap.size+1:=by rw[bs];unfold World.alloc;simp
  rw[←bs]at S1 b9 ⊢;have H1:=ae (H.out.still S1.out);obtain⟨W0,fa⟩:∃x,x=w.heap.size:=⟨_,rfl⟩;have fm:N<=w1.heap.size:=n'
  have ct:I<w1.heap.size:=n'
  rw[←fa]at k0 k2 fi ⊢;clear bs x0 hv hy fa
 .obtain⟨y8,y9,hc,k1,k5,ab,aj,ao,rfl⟩:=HA.out (by assumption);clear HA HB HC;obtain⟨g,go,gc,eg,e7,e8,C⟩:=HM.out n';obtain⟨T1,t1⟩:∃x,c.words_.getD 1 b4=x:=⟨_,rfl⟩;obtain⟨N2,t2⟩:∃x,c.numbers_.getD 2 b4=x:=⟨_,rfl⟩;obtain⟨N3,t3⟩:∃x,c.numbers_.getD 3 b4=x:=⟨_,rfl⟩;obtain⟨N4,t4⟩:∃x,c.numbers_.getD 4 b4=x:=⟨_,rfl⟩;obtain⟨N5,t5⟩:∃x,c.numbers_.getD 5 b4=x:=⟨_,rfl⟩;rw[t1,t2,t3,t4,t5]at ab;have x1:w1.cell? ⟨b,off+1,bN⟩=a' (.string ⟨T1.toArray⟩):=S1.out.cell id (HW.out 1 k1 _ t1);have m2:w1.cell? ⟨g,go+2,bN⟩=a' (.int .i64 N2):=S1.out.cell id ((C 2 n').trans (congrArg (fun z=>a' (bS .i64 z)) t2));have m3:w1.cell? ⟨g,go+3,bN⟩=a' (.int .i64 N3):=S1.out.cell id ((C 3 n').trans (congrArg (fun z=>a' (bS .i64 z)) t3));have m4:w1.cell? ⟨g,go+4,bN⟩=a' (.int .i64 N4):=S1.out.cell id ((C 4 n').trans (congrArg (fun z=>a' (bS .i64 z)) t4));have m5:w1.cell? ⟨g,go+5,bN⟩=a' (.int .i64 N5):=S1.out.cell id ((C 5 n').trans (congrArg (fun z=>a' (bS .i64 z)) t5));injection eg with b3 b2 b1
  subst b3 b2 b1;have i1:(1:Int)<(nw:Int):=n'
  have i2:(2:Int)<(n2:Int):=n'
  have i3:(3:Int)<(n2:Int):=n'
  have i4:(4:Int)<(n2:Int):=n'
  have i5:(5:Int)<(n2:Int):=n'
  have a6:=ae ab;have b5:=ae aj;have b6:=ae ao;have d0:=dr H1.out.cells.1;clear ab aj ao C t1 t2 t3 t4 t5 k1 k5 k2 HM HW;refine jv 22 (S:=fun w'=>w'.cell? ⟨W0,0,bN⟩=a' (.slice (a' ⟨b,off,bN⟩) nw cap)/\w'.cell? ⟨b,off+1,bN⟩=a' (.string ⟨T1.toArray⟩)/\w'.cell? ⟨g,go+2,bN⟩=a' (.int .i64 N2)/\w'.cell? ⟨g,go+3,bN⟩=a' (.int .i64 N3)/\w'.cell? ⟨g,go+4,bN⟩=a' (.int .i64 N4)/\w'.cell? ⟨g,go+5,bN⟩=a' (.int .i64 N5)/\w'.cell? ⟨I,0,bN⟩=a' (.slice a1 a2 a3)) o' ?_;have j:=And.intro (dr k0) (bR (dr x1) (bR (dr m2) (bR (dr m3) (bR (dr m4) (bR (dr m5) d0)))));refine Ek 0 j (h:=?_);refine Ek 1 j (h:=?_);refine Ek 2 j (h:=?_);refine Ek 3 j (h:=?_);refine Lt 4 [4,22] j (h:=?_);refine Ek 5 j (h:=?_);refine Lt 6 [6,7,8,21,22] j (h:=?_);refine Ek 7 j (h:=?_);refine Lt 8 [8,21,22] j (h:=?_);refine Ek 9 j (h:=?_);refine Ek 10 j (h:=?_);refine Lt 11 [11,21,22] j (h:=?_);refine Ek 12 j (h:=?_);refine Ek 13 j (h:=?_);refine Lt 14 [14,21,22] j (h:=?_);refine Ek 15 j (h:=?_);refine Ek 16 j (h:=?_);refine Lt 17 [17,21,22] j (h:=?_);refine Ek 18 j (h:=?_);refine Ek 19 j (h:=?_);refine Lt 20 [20,21,22] j (h:=?_);refine Ek 21 j (h:=?_);try simp only[bI,a7,a8,ad]
  refine ABx o' rfl ?_;intro K' aa
  go_simp
  (go_at_call 157;refine(ye a6.out (H1.out.still (AD.drew _ _)).rva (gF b9.out (AD.drew _ _))).mono ?_;rintro e w2 ⟨u,ub,uc,rfl,U,ho⟩;have J:=ae ((AD.drew C' w1).trans U);have OU:=ae ho;obtain⟨z0,-,-,zf⟩:=(H1.out.still J.out).cells;have be:=zf 0;obtain⟨u1,u2,u3,rfl⟩:=ho.slice;clear U ho zf)
  refine aa _ _ ?_;try simp only[bI,a7,a8,ad]
  refine Mm 23 (h:=?_);try simp only[bI,a7,a8,ad]
  refine Mm 24 (h:=?_);try simp only[bI,a7,a8,ad]
  refine Mm 25 (h:=?_);try simp only[bI,a7,a8,ad]
  refine Mm 26 (h:=?_);try simp only[bI,a7,a8,ad]
  refine Mm 27 (h:=?_);try simp only[bI,a7,a8,ad]
  refine AKj 28 o' rfl ?_;intro K' aa
  go_simp
  refine aa _ _ ?_;try simp only[bI,a7,a8,ad]
  refine Mm 29 (h:=?_);try simp only[bI,a7,a8,ad]
  refine wpAny_done o' ?_ _;have HD:=ae ((H1.out.still J.out).stars (w':=w1.drew) OU.out fm ct fun p=>H1.out.sb.lt p);obtain⟨w3,az⟩:∃x,x=w2.setCell ⟨I,0,bN⟩ (.slice u1 u2 u3):=⟨_,rfl⟩;have S3:=ae (show AD (fun x=>x=I) w w3 by rw[az];exact((S1.out.trans J.out).mono fun _ _ c=>c.elim).trans (LZ I 0 _ w2));rw[←az]at HD ⊢;obtain⟨q0,q1,q2,-⟩:=HD.out.cells;have G3:=ae (gF HG.out S3.out);clear az j OU J z0 be k0 x1 m2 m3 m4 m5 H1 a6
  go_wp2_with (first
   |(go_at_call 162;refine(zF b5.out HD.out.av G3.out).mono ?_;rintro e w4 ⟨rfl,ax⟩;have S4:=ae ax;clear ax)
   |(go_at_call 107;refine(qL b6.out (gS G3.out S4.out)).mono ?_;rintro e w5 ⟨vo,bo,co,rfl,au,e4⟩;have S5:=ae au;have O5:=ae e4;clear au e4))
  refine bodyPost_ret (results_tmp2 rfl _ _ _) rfl ?_;exact(HD.out.still S4.out).done (S3.out.trans (S4.out.mono fun _ _ c=>c.elim)) S5.out O5.out
 .obtain⟨bh,c6,hh,b0,R⟩:=HB.out (by assumption) (by assumption);clear HA HB HC;obtain⟨T2,t2⟩:∃x,c.words_.getD 2 b4=x:=⟨_,rfl⟩;rw[t2]at hh R;have x2:w1.cell? ⟨b,off+2,bN⟩=a' (.string ⟨T2.toArray⟩):=S1.out.cell id (HW.out 2 c6 _ t2);have i2:(2:Int)<(nw:Int):=n'
  have HH:=ae hh;have b8:=ae b0;have ay:=ae R;have d0:=H1.out.cells.1;clear hh b0 R t2
  go_region_held3 (fun w'=>w'.cell? ⟨I,0,bN⟩=a' (.slice a1 a2 a3)/\w'.cell? ⟨W0,0,bN⟩=a' (.slice (a' ⟨b,off,bN⟩) nw cap)/\w'.cell? ⟨b,off+2,bN⟩=a' (.string ⟨T2.toArray⟩)) (with_reducible first|exact b7.out|exact⟨dr d0,dr k0,dr x2⟩) (first
   |(go_at_call 71;refine(xk HH.out (H1.out.still (AD.drew _ _)).rva (gF b9.out (AD.drew _ _))).mono ?_;rintro e w2 ⟨rfl,U⟩;have b7:=ae (show _/\_/\_ from⟨U.cell id d0,U.cell id k0,U.cell id x2⟩);have J:=ae ((AD.drew C' w1).trans U);clear U))
  have H2:=ae (H1.out.still J.out);have h8:=ae (b9.out.mono (J.out.mono fun _ _ c=>c.elim) fun _ _ c=>c);clear d0 b7;cases bh with
  | false=>
   go_wp2
   obtain rfl:=b8.out (by first|rfl|trivial);refine bodyPost_ret (results_tmp2 rfl _ _ _) rfl ?_;exact H2.out.done ((S1.out.trans J.out).mono fun _ _ c=>c.elim) (AD.refl _ _) (Own.nil _ 1 _ n')
  | true=>
   obtain⟨y8,y9,hc,k3,k4,ab,aj,ao,rfl⟩:=ay.out rfl;clear ay b8 HH;obtain⟨g,go,gc,eg,e7,e8,C⟩:=HM.out n';obtain⟨T3,t3⟩:∃x,c.words_.getD 3 b4=x:=⟨_,rfl⟩;obtain⟨N1,m1⟩:∃x,c.numbers_.getD 1 b4=x:=⟨_,rfl⟩;obtain⟨N4,m4⟩:∃x,c.numbers_.getD 4 b4=x:=⟨_,rfl⟩;rw[t3,m1,m4]at ab;have x2:w2.cell? ⟨b,off+2,bN⟩=a' (.string ⟨T2.toArray⟩):=J.out.cell id x2;have k0:w2.cell? ⟨W0,0,bN⟩=a' (.slice (a' ⟨b,off,bN⟩) nw cap):=J.out.cell id k0;have k2:w2.cell? ⟨W0,2,bN⟩=a' (.bool c.fainter_):=J.out.cell id k2;have x3:w2.cell? ⟨b,off+3,bN⟩=a' (.string ⟨T3.toArray⟩):=J.out.cell id (S1.out.cell id (HW.out 3 k3 _ t3));have m1:w2.cell? ⟨g,go+1,bN⟩=a' (.int .i64 N1):=J.out.cell id (S1.out.cell id ((C 1 n').trans (congrArg (fun z=>a' (bS .i64 z)) m1)));have m4:w2.cell? ⟨g,go+4,bN⟩=a' (.int .i64 N4):=J.out.cell id (S1.out.cell id ((C 4 n').trans (congrArg (fun z=>a' (bS .i64 z)) m4)));injection eg with b3 b2 b1
   subst b3 b2 b1;have i3:(3:Int)<(nw:Int):=n'
   have j1:(1:Int)<(n2:Int):=n'
   have j4:(4:Int)<(n2:Int):=n'
   have h5:N<=w2.heap.size:=Nat.le_trans fm J.out.size;have e6:I<w2.heap.size:=Nat.lt_of_lt_of_le ct J.out.size;have a6:=ae ab;have b5:=ae aj;have b6:=ae ao;have d1:=dr H2.out.cells.2.1;clear ab aj ao C t3 k3 k4 HM HW
   go_wp2
   refine jv 22 (S:=fun w'=>w'.cell? ⟨W0,0,bN⟩=a' (.slice (a' ⟨b,off,bN⟩) nw cap)/\w'.cell? ⟨W0,2,bN⟩=a' (.bool c.fainter_)/\w'.cell? ⟨b,off+2,bN⟩=a' (.string ⟨T2.toArray⟩)/\w'.cell? ⟨b,off+3,bN⟩=a' (.string ⟨T3.toArray⟩)/\w'.cell? ⟨g,go+1,bN⟩=a' (.int .i64 N1)/\w'.cell? ⟨g,go+4,bN⟩=a' (.int .i64 N4)/\w'.cell? ⟨I,1,bN⟩=a' (.slice e1 e2 e3)) o' ?_;have j:=And.intro (dr k0) (bR (dr k2) (bR (dr x2) (bR (dr x3) (bR (dr m1) (bR (dr m4) d1)))));refine Ek 0 j (h:=?_);refine Ek 1 j (h:=?_);refine Ek 2 j (h:=?_);refine Ek 3 j (h:=?_);refine Lt 4 [4,22] j (h:=?_);refine Ek 5 j (h:=?_);refine Ek 6 j (h:=?_);refine Lt 7 [7,21,22] j (h:=?_);refine Ek 8 j (h:=?_);refine Lt 9 [9,10,11,21,22] j (h:=?_);refine Ek 10 j (h:=?_);refine Lt 11 [11,21,22] j (h:=?_);refine Ek 12 j (h:=?_);refine Lt 13 [13,14,15,21,22] j (h:=?_);refine Ek 14 j (h:=?_);refine Lt 15 [15,21,22] j (h:=?_);refine Ek 16 j (h:=?_);refine Ek 17 j (h:=?_);refine Lt 18 [18,21,22] j (h:=?_);refine Ek 19 j (h:=?_);refine Lt 20 [20,21,22] j (h:=?_);refine Ek 21 j (h:=?_);try simp only[bI,a7,a8,ad]
   refine ABx o' rfl ?_;intro K' aa
   go_simp
   (go_at_call 158;refine(ADc a6.out (H2.out.still (AD.drew _ _)).rvb (gF h8.out (AD.drew _ _))).mono ?_;rintro e w3 ⟨u,ub,uc,rfl,eu,ho⟩;have S3:=ae ((AD.drew C' w2).trans eu);have OU:=ae ho;obtain⟨-,z0,-,zf⟩:=(H2.out.still S3.out).cells;have be:=zf 1;obtain⟨u1,u2,u3,rfl⟩:=ho.slice;clear eu ho zf)
   refine aa _ _ ?_;try simp only[bI,a7,a8,ad]
   refine Mm 23 (h:=?_);try simp only[bI,a7,a8,ad]
   refine Mm 24 (h:=?_);try simp only[bI,a7,a8,ad]
   refine Mm 25 (h:=?_);try simp only[bI,a7,a8,ad]
   refine Mm 26 (h:=?_);try simp only[bI,a7,a8,ad]
   refine Mm 27 (h:=?_);try simp only[bI,a7,a8,ad]
   refine AKj 28 o' rfl ?_;intro K' aa
   go_simp
   refine aa _ _ ?_;try simp only[bI,a7,a8,ad]
   refine Mm 29 (h:=?_);try simp only[bI,a7,a8,ad]
   refine wpAny_done o' ?_ _;have HD:=ae ((H2.out.still S3.out).ests (w':=w2.drew) OU.out h5 e6 fun p=>H2.out.sa.lt p);obtain⟨w4,c7⟩:∃x,x=w3.setCell ⟨I,1,bN⟩ (.slice u1 u2 u3):=⟨_,rfl⟩;have S4:=ae (show AD (fun x=>x=I) w w4 by rw[c7];exact(((S1.out.trans J.out).trans S3.out).mono fun _ _ c=>c.elim).trans (LZ I 1 _ w3));rw[←c7]at HD ⊢;obtain⟨q0,q1,q2,-⟩:=HD.out.cells;have G4:=ae (gF HG.out S4.out);clear c7 j OU S3 z0 be k0 k2 x2 x3 m1 m4 H1 H2 a6
   go_wp2_with (first
    |(go_at_call 162;refine(zF b5.out HD.out.av G4.out).mono ?_;rintro e w5 ⟨rfl,au⟩;have S5:=ae au;clear au)
    |(go_at_call 107;refine(qL b6.out (gS G4.out S5.out)).mono ?_;rintro e w6 ⟨vo,bo,co,rfl,bz,e0⟩;have S6:=ae bz;have O6:=ae e0;clear bz e0))
   refine bodyPost_ret (results_tmp2 rfl _ _ _) rfl ?_;exact(HD.out.still S5.out).done (S4.out.trans (S5.out.mono fun _ _ c=>c.elim)) S6.out O6.out
 .obtain⟨⟨z1,z2⟩,c6,k3,hz,b0,R⟩:=HC.out (by assumption) (by assumption);clear HA HB HC;obtain⟨g,go,gc,eg,e7,e8,C⟩:=HM.out n';obtain⟨T2,t2⟩:∃x,c.words_.getD 2 b4=x:=⟨_,rfl⟩;obtain⟨N1,m1⟩:∃x,c.numbers_.getD 1 b4=x:=⟨_,rfl⟩;obtain⟨N3,m3⟩:∃x,c.numbers_.getD 3 b4=x:=⟨_,rfl⟩;rw[t2,m1,m3]at hz;rw[t2]at R;have x2:w1.cell? ⟨b,off+2,bN⟩=a' (.string ⟨T2.toArray⟩):=S1.out.cell id (HW.out 2 c6 _ t2);have m1:w1.cell? ⟨g,go+1,bN⟩=a' (.int .i64 N1):=S1.out.cell id ((C 1 n').trans (congrArg (fun z=>a' (bS .i64 z)) m1));have m3:w1.cell? ⟨g,go+3,bN⟩=a' (.int .i64 N3):=S1.out.cell id ((C 3 n').trans (congrArg (fun z=>a' (bS .i64 z)) m3));injection eg with b3 b2 b1
  subst b3 b2 b1;have i2:(2:Int)<(nw:Int):=n'
  have j1:(1:Int)<(n2:Int):=n'
  have j3:(3:Int)<(n2:Int):=n'
  have HZ:=ae hz;have b8:=ae b0;have ay:=ae R;have d2:=dr H1.out.cells.2.2.1;have gn:b≠I/\W0≠I:=⟨hO,fi⟩;have dw:=ae gn;clear hz b0 R C t2 HM HW k2 gn;refine jv 16 (S:=fun w'=>w'.cell? ⟨W0,0,bN⟩=a' (.slice (a' ⟨b,off,bN⟩) nw cap)/\w'.cell? ⟨b,off+2,bN⟩=a' (.string ⟨T2.toArray⟩)/\w'.cell? ⟨g,go+1,bN⟩=a' (.int .i64 N1)/\w'.cell? ⟨g,go+3,bN⟩=a' (.int .i64 N3)/\w'.cell? ⟨I,2,bN⟩=a' (.string ⟨d.Log.toArray⟩)) o' ?_;have j:=And.intro (dr k0) (bR (dr x2) (bR (dr m1) (bR (dr m3) d2)));refine Ek 0 j (h:=?_);refine Ek 1 j (h:=?_);refine Ek 2 j (h:=?_);refine Ek 3 j (h:=?_);refine Lt 4 [4,16] j (h:=?_);refine Ek 5 j (h:=?_);refine Ek 6 j (h:=?_);refine Lt 7 [7,15,16] j (h:=?_);refine Ek 8 j (h:=?_);refine Lt 9 [9,10,11,15,16] j (h:=?_);refine Ek 10 j (h:=?_);refine Lt 11 [11,15,16] j (h:=?_);refine Ek 12 j (h:=?_);refine Ek 13 j (h:=?_);refine Lt 14 [14,15,16] j (h:=?_);refine Ek 15 j (h:=?_);try simp only[bI,a7,a8,ad]
  refine ABx o' rfl ?_;intro K' aa
  go_simp
  (go_at_call 159;refine(sP HZ.out (gF b9.out (AD.drew _ _))).mono ?_;rintro e w2 ⟨rfl,U⟩;have J:=ae ((AD.drew C' w1).trans U);obtain⟨-,-,z0,zf⟩:=(H1.out.still J.out).cells;have be:=zf 2;have ek:=J.out.cell id k0;have ej:=J.out.cell id x2;clear U zf)
  refine aa _ _ ?_;try simp only[bI,a7,a8,ad]
  refine Mm 17 (h:=?_);try simp only[bI,a7,a8,ad]
  refine Mm 18 (h:=?_);try simp only[bI,a7,a8,ad]
  refine Mm 19 (h:=?_);try simp only[bI,a7,a8,ad]
  refine Mm 20 (h:=?_);try simp only[bI,a7,a8,ad]
  refine Mm 21 (h:=?_);try simp only[bI,a7,a8,ad]
  refine AKj 22 o' rfl ?_;intro K' aa
  go_simp
  refine aa _ _ ?_;try simp only[bI,a7,a8,ad]
  refine Mm 23 (h:=?_);try simp only[bI,a7,a8,ad]
  refine wpAny_done o' ?_ _;have HD:=ae ((H1.out.still J.out).log z1);obtain⟨w3,az⟩:∃x,x=w2.setCell ⟨I,2,bN⟩ (.string ⟨z1.toArray⟩):=⟨_,rfl⟩;have cm:=ae (show AD (fun x=>x=I) w2 w3 by rw[az];exact LZ I 2 _ w2);have S3:=ae (show AD (fun x=>x=I) w w3 from((S1.out.trans J.out).mono fun _ _ c=>c.elim).trans cm.out);rw[←az]at HD ⊢;have k0:w3.cell? ⟨W0,0,bN⟩=a' (.slice (a' ⟨b,off,bN⟩) nw cap):=cm.out.cell dw.out.2 ek;have x2:w3.cell? ⟨b,off+2,bN⟩=a' (.string ⟨T2.toArray⟩):=cm.out.cell dw.out.1 ej;have G3:=ae (gF HG.out S3.out);clear az j J z0 be m1 m3 H1 HZ d2 ek ej cm dw
  by_cases h0:z2=0
  .subst h0;obtain⟨y6,y7,y8,y9,eo,en,ab,aj,rfl⟩:=ay.out rfl;have h7:=ae eo;have h6:=ae en;have a6:=ae ab;have b5:=ae aj;have d2:=HD.out.cells.2.2.1;clear eo en ab aj ay b8
   go_wp2
   go_region_held3 (fun w'=>w'.cell? ⟨I,2,bN⟩=a' (.string ⟨z1.toArray⟩)/\w'.cell? ⟨W0,0,bN⟩=a' (.slice (a' ⟨b,off,bN⟩) nw cap)/\w'.cell? ⟨b,off+2,bN⟩=a' (.string ⟨T2.toArray⟩)) (with_reducible first|exact b7.out|exact⟨dr d2,dr k0,dr x2⟩) (first
    |(go_at_call 160;refine(qD h7.out (gS G3.out (AD.drew _ _))).mono ?_;rintro e w4 ⟨u,rfl,ax,hu⟩;have b7:=ae (show _/\_/\_ from⟨ax.cell id d2,ax.cell id k0,ax.cell id x2⟩);have S4:=ae ((AD.drew C' w3).trans ax);have HU:=ae hu;clear ax hu))
   clear d2 b7
   go_wp2_with (first
    |(go_at_call 161;refine(AOH h6.out HU.out (gS G3.out S4.out)).mono ?_;rintro e w5 ⟨rfl,au⟩;have S5:=ae (S4.out.trans au);clear au)
    |(go_at_call 110;refine(yO a6.out (gS G3.out S5.out)).mono ?_;rintro e w6 ⟨rfl,bz⟩;have S6:=ae (S5.out.trans bz);clear bz)
    |(go_at_call 107;refine(qL b5.out (gS G3.out S6.out)).mono ?_;rintro e w7 ⟨vo,bo,co,rfl,et,ew⟩;have S7:=ae et;have O7:=ae ew;clear et ew))
   refine bodyPost_ret (results_tmp2 rfl _ _ _) rfl ?_;exact(HD.out.still S6.out).done (S3.out.trans (S6.out.mono fun _ _ c=>c.elim)) S7.out O7.out
  .go_wp2
   obtain rfl:=b8.out h0;refine bodyPost_ret (results_tmp2 rfl _ _ _) rfl ?_;exact HD.out.done S3.out (AD.refl _ _) (Own.nil _ 1 _ n')
end Go.Proofs.YtegmpdmpgmpiaaaGreatDoor.dsk
