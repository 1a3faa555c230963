/- Lemmas and walks, several texts in one. No condition. -/
import Derived.Test.YteaicgcfpcklkaaGreatDoorRows
import Derived.Test.YteaicgcfpcklkaaGreatDoorP7
import Derived.Shelf.Strings.Builder1
import Derived.Shelf.Strings.OnBuilder
import Derived.Lib.AppendStr
import Derived.Lib.AppendIntMem
import Derived.Deep.AppendLies
import Derived.WalkKit
import Derived.Lib.Hide
import Derived.Test.YteaicgcfpcklkaaGreatDoorP3
import Derived.LoopTactic
set_option linter.unusedSimpArgs false
set_option linter.unusedVariables false
set_option maxRecDepth 100000
set_option maxHeartbeats 8000000
namespace Go.Proofs.YteaicgcfpcklkaaGreatDoor
open Go Go.RowKit
def AAX:Go.Shelf.Ren:=⟨fun
 | 166=>18
 | 167=>20
 | 169=>21
 | 240=>40
 | 276=>71
 | n=>n,fun
 | 0=>0
 | 3=>3
 | 4=>4
 | 5=>5
 | 9=>9
 | 20=>20
 | 37=>22
 | 70=>46
 | 72=>48
 | 75=>50
 | 80=>45
 | 127=>87
 | 164=>123
 | n=>n,fun|n=>n⟩
theorem pn:Go.Proofs.Lays.n166 Tryz.prog AAX where
 mixed:=by kernel_rfl
 f166:=Tryz.func18.trans (congrArg some (by kernel_rfl))
 f240:=Tryz.func40.trans (congrArg some (by kernel_rfl))
 f276:=Tryz.func71.trans (congrArg some (by kernel_rfl))
 t0:=Tryz.underlying0
 a0:=Tryz.isAgg0
 z0:=Tryz.sizeOf0
 v0:=Tryz.zeroValue0
 t3:=Tryz.underlying3
 a3:=Tryz.isAgg3
 z3:=Tryz.sizeOf3
 v3:=Tryz.zeroValue3
 t4:=Tryz.underlying4
 a4:=Tryz.isAgg4
 z4:=Tryz.sizeOf4
 v4:=Tryz.zeroValue4
 t9:=Tryz.underlying9
 a9:=Tryz.isAgg9
 z9:=Tryz.sizeOf9
 v9:=Tryz.zeroValue9
 t20:=Tryz.underlying20
 a20:=Tryz.isAgg20
 z20:=Tryz.sizeOf20
 v20:=Tryz.zeroValue20
 t37:=Tryz.underlying22
 a37:=Tryz.isAgg22
 z37:=Tryz.sizeOf22
 v37:=Tryz.zeroValue22
 t70:=Tryz.underlying46
 a70:=Tryz.isAgg46
 z70:=Tryz.sizeOf46
 v70:=Tryz.zeroValue46
 t72:=Tryz.underlying48
 a72:=Tryz.isAgg48
 z72:=Tryz.sizeOf48
 v72:=Tryz.zeroValue48
 t75:=Tryz.underlying50
 a75:=Tryz.isAgg50
 z75:=Tryz.sizeOf50
 v75:=Tryz.zeroValue50
 t164:=Tryz.underlying123
 a164:=Tryz.isAgg123
 z164:=Tryz.sizeOf123
 v164:=Tryz.zeroValue123
theorem AEQ:Go.Proofs.Lays.n169 Tryz.prog AAX where
 mixed:=by kernel_rfl
 f169:=Tryz.func21.trans (congrArg some (by kernel_rfl))
 t0:=Tryz.underlying0
 a0:=Tryz.isAgg0
 z0:=Tryz.sizeOf0
 v0:=Tryz.zeroValue0
 t3:=Tryz.underlying3
 a3:=Tryz.isAgg3
 z3:=Tryz.sizeOf3
 v3:=Tryz.zeroValue3
 t9:=Tryz.underlying9
 a9:=Tryz.isAgg9
 z9:=Tryz.sizeOf9
 v9:=Tryz.zeroValue9
 t37:=Tryz.underlying22
 a37:=Tryz.isAgg22
 z37:=Tryz.sizeOf22
 v37:=Tryz.zeroValue22
 t70:=Tryz.underlying46
 a70:=Tryz.isAgg46
 z70:=Tryz.sizeOf46
 v70:=Tryz.zeroValue46
 t72:=Tryz.underlying48
 a72:=Tryz.isAgg48
 z72:=Tryz.sizeOf48
 v72:=Tryz.zeroValue48
 t127:=Tryz.underlying87
 a127:=Tryz.isAgg87
 z127:=Tryz.sizeOf87
 v127:=Tryz.zeroValue87
theorem AJT:Builder.Extra Tryz.prog AAX where
  sizeBuilder:=by kernel_rfl
  liesBuilder:=by kernel_rfl
  t5:=Tryz.underlying5
  a5:=Tryz.isAgg5
  z5:=Tryz.sizeOf5
  v5:=Tryz.zeroValue5
  infoByte:=by kernel_rfl
  cellsByte:=by kernel_rfl
  sizeByte:=by kernel_rfl
  neB5:=by decide
def iD(b:Nat)(l:List UInt8)(w:World):Prop:=Lib.IsBuilder 48 5 b b (Lib.byteCells l) w
theorem iD.new(w:World):iD w.heap.size [] (w.alloc (.cells #[.pointer none,.slice none 0 0] 48)):=Lib.fresh_isBuilder _ _ w
theorem iD.lt{b:Nat}{l:List UInt8}{w:World}(h:iD b l w):b<w.heap.size:=by
  rcases h with h|h<;>exact h.lt
theorem iD.same{b:Nat}{l:List UInt8}{w w':World}(h:iD b l w)(hs:AR (fun _=>False) w w'):iD b l w':=by
  have lt:∀ {b:Nat} {o:Obj},w.heap[b]? = some o->w'.heap[b]? = some o:=fun {b o} hb=>by
    have:b<w.heap.size:=by
      rcases Nat.lt_or_ge b w.heap.size with h' | h'
      · exact h'
      · rw[Array.getElem?_eq_none h'] at hb;cases hb
    rw[hs.block b this (fun c=>c),hb]
  have one:∀ p,Lib.BuilderAt 48 5 b b p (Lib.byteCells l) w->Lib.BuilderAt 48 5 b b p (Lib.byteCells l) w':=by
    rintro p ⟨h1,v,h2,h3,h4⟩;refine⟨h1,v,lt h2,⟨h3.1,?_⟩,h4⟩;rcases h3.2 with h5|⟨g,cap,cur,h5,h6,h7,h8⟩
    · exact .inl h5
    · exact .inr ⟨g,cap,cur,h5,h6,lt h7,h8⟩
  rcases h with h|h
  · exact .inl (one _ h)
  · exact .inr (one _ h)
theorem iD.below{b:Nat}{l:List UInt8}{w w':World}(h:iD b l w)(hs:Below w.heap.size w w'):iD b l w' :=
  h.same ⟨hs.os,hs.tape,hs.output,hs.size,fun k hk _=>hs.block k hk⟩
theorem iD.drew{b:Nat}{l:List UInt8}{w:World}(h:iD b l w):iD b l w.drew:=h.same (AR.drew _ _)
theorem iD.alloc{b:Nat}{l:List UInt8}{w:World}(h:iD b l w)(o:Obj):iD b l (w.alloc o):=h.same (AR.alloc _ _ _)
theorem aW{b:Nat}{l:List UInt8}{w:World}(h:iD b l w):
    Calls Tryz.prog 21 #[.pointer (some ⟨b,0,none⟩)] w fun e w'=>e = .returned (.string ⟨l.toArray⟩)∧Below b w w' :=
  Any.Builder_String_any AEQ AJT b b l w h (Nat.le_of_lt h.lt)
def Qm(b:Nat)(l:List UInt8)(v:Value)(w:World):Prop :=
 ∃ p,(p = .pointer none∨p = .pointer (some ⟨b,0,none⟩))∧w.heap[b]? = some (.cells #[p,v] 48 (0,0))∧w.ownsRow b 5 1 v (Lib.byteCells l).length (Lib.byteCells l)∧v.ownBlock≠some b
theorem gh{b:Nat}{l:List UInt8}{v:Value}{w:World}(h:Qm b l v w):iD b l w:=by
 obtain⟨p,hp,h1,h2,h3⟩:=h;rcases hp with rfl|rfl
 ·exact .inl ⟨Nat.le_refl _,v,h1,h2,h3⟩
 ·exact .inr ⟨Nat.le_refl _,v,h1,h2,h3⟩
theorem AAW{b:Nat}{l:List UInt8}{v:Value}{w:World}(h:Qm b l v w):Calls Tryz.prog 40 #[.pointer (some ⟨b,0,none⟩)] w fun e w'=>e = .returned (.tuple #[]) ∧
  w'.heap[b]? = some (.cells #[.pointer (some ⟨b,0,none⟩),v] 48 (0,0))∧w'.ownsRow b 5 1 v (Lib.byteCells l).length (Lib.byteCells l)∧v.ownBlock≠some b∧AR (fun k=>k=b) w w':=by
 obtain⟨p,hp,h1,h2,h3⟩:=h;have hc:w.cell? ⟨b,0,none⟩=some p:=by unfold World.cell?;rw[h1];rfl
 rcases hp with rfl|rfl
 ·refine (Any.Builder_copyCheck_fresh ({ pn with }:Go.Proofs.Lays.n240 Tryz.prog AAX) AJT.toX72 b w hc (by unfold World.shape?;rw[h1];rfl) (by unfold World.frozen?;rw[h1];rfl)).mono ?_;rintro e w' ⟨rfl,rfl⟩;refine⟨rfl,?_,ownsRow_setCell_other (a:=⟨b,0,none⟩) h2 h3 _,h3,⟨rfl,rfl,rfl,by simp[World.setCell],fun k _ hn=>Go.heap_setCell_other w ⟨b,0,none⟩ k _ hn⟩⟩;rw[Go.heap_setCell_same w b 0 _ _ _ h1];rfl
 ·refine (Any.Builder_copyCheck_used ({ pn with }:Go.Proofs.Lays.n240 Tryz.prog AAX) AJT.toX72 b w hc).mono ?_;rintro e w' ⟨rfl,rfl⟩;exact⟨rfl,h1,h2,h3,AR.refl _ _⟩
theorem ej:(Tryz.prog.info? 5).map (fun i=>(i.zero,i.size,i.bytes))=some (some (.int .u8 0),1,1):=by kernel_rfl
theorem po:Tryz.prog.underlying 22=some (.slice 5):=by kernel_rfl
theorem AER:Tryz.prog.underlying 9=some .string:=by kernel_rfl
theorem XR{b:Nat}{l:List UInt8}{v:Value}{w:World}(h:Qm b l v w):b<w.heap.size:=(gh h).lt
theorem kj{b:Nat}{l s:List UInt8}{v v2:Value}{w w1 w2:World}(h1:w1.heap[b]? = some (.cells #[.pointer (some ⟨b,0,none⟩),v] 48 (0,0)))(h3:v.ownBlock≠some b)(hb:b<w1.heap.size)(q:AR (fun k=>k=b) w w1)
  (ho:w2.ownsRow b 5 1 v2 (Lib.byteCells (l++s)).length (Lib.byteCells (l++s))) (hg:w1.grownBy w2 v.ownBlock) :
  Qm b (l++s) v2 (w2.setCell ⟨b,1,none⟩ v2)∧AR (fun k=>k=b∨v.ownBlock=some k) w (w2.setCell ⟨b,1,none⟩ v2):=by
 have e2:w2.heap[b]? = some (.cells #[.pointer (some ⟨b,0,none⟩),v] 48 (0,0)):=by rw[hg.block b hb (fun e=>h3 e.symm),h1]
 have ne:v2.ownBlock≠some b:=by
  rcases ho.2 with⟨rfl,_⟩|⟨g,cap,cur,rfl,_,hh,_⟩
  ·intro e;cases e
  ·intro e;obtain rfl:g=b:=by simpa[Value.ownBlock] using e
   rw[e2] at hh;injection hh with hh
   injection hh with _ hh _
   exact absurd hh (by decide)
 refine⟨⟨.pointer (some ⟨b,0,none⟩),.inr rfl,by rw[Go.heap_setCell_same w2 b 1 _ _ _ e2];rfl,ownsRow_setCell_other (a:=⟨b,1,none⟩) ho ne _,ne⟩,?_⟩;refine ((q.mono fun k _ e=>.inl e).trans (AR.mono (S:=fun k=>some k=v.ownBlock) ⟨hg.os,hg.tape,hg.output,hg.size,fun k hk hn=>hg.block k hk hn⟩ fun k _ e=>.inr e.symm)).trans ?_;exact⟨rfl,rfl,rfl,by simp[World.setCell],fun k _ hn=>Go.heap_setCell_other w2 ⟨b,1,none⟩ k _ (fun e=>hn (.inl e))⟩
theorem nt{w:World}{N:Nat}{e:TypeId}{sz n:Nat}{v:Value}{xs:List Value}(h:w.ownsRow N e sz v n xs):∃ a c,v = .slice a n c:=by
 rcases h.2 with⟨rfl,rfl⟩|⟨g,cap,cur,rfl,_⟩
 ·exact⟨_,_,rfl⟩
 ·exact⟨_,_,rfl⟩
theorem bf{P:Program}(w:World)(base:Nat)(t u ty e:TypeId)(i:TypeInfo)(ht:P.underlying t=some (.slice e))(hu:P.underlying u=some .string)(hi:P.info? e=some i)(hz:i.zero=some (.int .u8 0))
  (hsize:i.size=1) (hby:i.bytes=1) (v:Value) (n:Nat) (xs:List Value) (hown:w.ownsRow base e 1 v n xs) (s:ByteArray) (h63:n+s.size<=maxLen) (hbytes:n+s.size<=140737488355328) (hbase:base<=w.heap.size) :
  ∃ v' w',(Builtin.append_ #[t,u] ty #[v,.string s]).run P w = .ok v' w'∧w'.ownsRow base e 1 v' (n+s.size) (xs++Lib.strCells s)∧w.grownBy w' v.ownBlock∧∀ k,v'.ownBlock=some k->v.ownBlock=some k∨w.heap.size<=k:=by
 obtain⟨v',w',hr,h2,h3,h4⟩:=Lib.run_append_own_string (P:=P) w base t u ty e i ht hu hi hz hsize hby v n xs hown s h63 hbytes hbase;refine⟨v',w',hr,h2,h3,fun k hk=>?_⟩;have hsmall:n+s.size<=9223372036854775807:=by simp only[maxLen] at h63;omega
 have hxl:xs.length=n:=by simpa using hown.1
 rcases hown.2 with⟨rfl,rfl⟩|⟨g,cap,cur,rfl,hbg,hg,hnc,hcm,hcs,htake⟩
 ·by_cases hm:s.size=0
  ·rw[h4.2 ⟨rfl,hm⟩] at hk;cases hk
  ·have hr2:=run_append_nil_string (P:=P) w t u ty e i (.int .u8 0) ht hu hi hz s (by omega) (by omega) (by rw[hby];omega);rw[hr2] at hr;injection hr with hr _
   subst hr;have:w.heap.size=k:=by simpa[Value.ownBlock] using hk
   exact .inr (by omega)
 ·by_cases hroom:n+s.size<=cap
  ·have hcs':cur.size=cap:=by simpa using hcs
   have hr2:=Lib.run_append_room_string (P:=P) w t u ty e i ht hu hi hsize g n cap cur hg s hroom (by omega);rw[hr2] at hr;injection hr with hr _
   subst hr;exact .inl hk
  ·have holds:∀ j u,xs[j]? = some u->w.cell? ((⟨g,0,none⟩:Addr).add j)=some u:=hown.cells (g:=g) rfl;have hr2:=Lib.run_append_grow_string (P:=P) w t u ty e i (.int .u8 0) ht hu hi hz ⟨g,0,none⟩ n cap xs (by rw[hsize];simpa using hxl) holds s (by omega) (by omega) (by rw[hby];exact growslice_fits (by omega) (by omega));rw[hr2] at hr;injection hr with hr _
   subst hr;have:w.heap.size=k:=by simpa[Value.ownBlock] using hk
   exact .inr (by omega)
theorem Qo{P:Program}(w:World){ops:Array Oper}{rest:List Oper}{o:Oper}{a:Act}{Q:Exit->Act->World->Prop}(hgd:o.guard=none)(sl x:Operand)(t u:TypeId)
  (ho:o.op = .call { callee:=.builtin .append,args:=#[sl,x],argTypes:=#[t,u] })
  (base:Nat) (e:TypeId) (i:TypeInfo) (ht:P.underlying t=some (.slice e)) (hu:P.underlying u=some .string) (hi:P.info? e=some i) (hz:i.zero=some (.int .u8 0))
  (hsize:i.size=1) (hby:i.bytes=1)
  (v:Value) (n:Nat) (xs:List Value) (hs:a.eval sl=v) (hown:w.ownsRow base e 1 v n xs) (s:ByteArray) (hx:a.eval x = .string s)
  (h63:n+s.size<=maxLen) (hbytes:n+s.size<=140737488355328) (hbase:base<=w.heap.size)
  (h:∀ v' w',w'.ownsRow base e 1 v' (n+s.size) (xs++Lib.strCells s)->w.grownBy w' v.ownBlock->(∀ k,v'.ownBlock=some k->v.ownBlock=some k∨w.heap.size<=k)->wpList P ops Q rest (a.put o.dst v') w'):wpList P ops Q (o::rest) a w:=by
 refine wpList_plain hgd fun K hK=>?_
 obtain⟨v',w',hr,h2,h3,h4⟩:=bf (P:=P) w base t u o.type e i ht hu hi hz hsize hby v n xs hown s h63 hbytes hbase;unfold Oper.wp execOp;simp only[ho,resolve,invoke,builtin,Sem.run_bind,Sem.run_pure,Result.andThen_ok,List.map_toArray,List.map_cons,List.map_nil,hs,hx,hr];exact hK _ _ (h v' w' h2 h3 h4)
attribute [local irreducible] Calls in
theorem aV{b:Nat}{l s:List UInt8}{v:Value}{w:World}(h:Qm b l v w)(hl:l.length+s.length<=140737488355328){sb:ByteArray}(hs:sb=⟨s.toArray⟩):
  Calls Tryz.prog 18 #[.pointer (some ⟨b,0,none⟩),.string sb] w fun e w'=>∃ v',e = .returned (.tuple #[.int .i64 s.length,.nilIface])∧Qm b (l++s) v' w'∧AR (fun k=>k=b∨v.ownBlock=some k) w w'∧∀ k,v'.ownBlock=some k->v.ownBlock=some k∨w.heap.size<=k:=by
 subst hs;have H:=Lib.hid h;have hlt:=XR h;have hln:(Lib.byteCells l).length=l.length:=Lib.byteCells_length l;have hsz:(⟨s.toArray⟩:ByteArray).size=s.length:=by simp[ByteArray.size]
 obtain⟨i0,hi,hz0,hz1,hz2⟩:=info_parts ej;have HI:=Lib.hid hi;have HZ:=Lib.hid hz0;have H1:=Lib.hid hz1;have H2:=Lib.hid hz2;have HLN:=Lib.hid hln;have HSZ:=Lib.hid hsz;clear h hi hz0 hz1 hz2 hln hsz
 go_enter Tryz.func18,Tryz.ntmps18
 go_wp2_with (first
  | (go_at_call 40;refine (AAW H.out).mono ?_;rintro e w1 ⟨rfl,m1,m2,m3,m4⟩;have c1:w1.cell? ⟨b,1,none⟩=some v:=(by unfold World.cell?;rw[m1];rfl);have hb1:b<w1.heap.size:=Nat.lt_of_lt_of_le hlt m4.size;have M1:=Lib.hid m1;have M2:=Lib.hid m2;have M3:=Lib.hid m3;have M4:=Lib.hid m4;clear m1 m2 m3 m4)
  | (at_builtin;refine Qo _ rfl _ _ 22 9 rfl b 5 i0 po AER HI.out HZ.out H1.out H2.out v (Lib.byteCells l).length (Lib.byteCells l) rfl M2.out ⟨s.toArray⟩ rfl (by rw[HLN.out,HSZ.out];unfold maxLen;omega) (by rw[HLN.out,HSZ.out];exact hl) (Nat.le_of_lt hb1) ?_;intro v2 w2 o2 g2 hq2;have HQ:=Lib.hid hq2;clear hq2;obtain⟨va,vc,hv2⟩:=nt o2;subst hv2;have e2:w2.heap[b]? = _:=(g2.block b hb1 (fun e=>M3.out e.symm)).trans M1.out;have c2:w2.cell? ⟨b,1,none⟩=some v:=(by unfold World.cell?;rw[e2];rfl);have f2:w2.frozen? ⟨b,1,none⟩=false:=(by unfold World.frozen?;rw[e2];rfl);have O2:=Lib.hid o2;have G2:=Lib.hid g2;clear o2 g2 e2))
 go_ret2
 have o2:=O2.out;have ec:Lib.strCells ⟨s.toArray⟩=Lib.byteCells s:=Lib.strCells_toArray s;rw[ec,← Lib.byteCells_append] at o2;have hpt:=kj M1.out M3.out hb1 M4.out (l:=l) (s:=s) (by rw[show (Lib.byteCells (l++s)).length=(Lib.byteCells l).length+(⟨s.toArray⟩:ByteArray).size by rw[Lib.byteCells_length,Lib.byteCells_length,HSZ.out,List.length_append]];exact o2) G2.out;exact⟨_,by rw[← HSZ.out];rfl,hpt.1,hpt.2,fun k hk=>(HQ.out k hk).imp id fun c=>Nat.le_trans M4.out.size c⟩
attribute [local irreducible] Calls in
theorem ei{b:Nat}{l:List UInt8}(c:UInt8){v:Value}{w:World}(h:Qm b l v w)(hl:l.length+1<=140737488355328){n:Int}(hn:n=(c.toNat:Int)):
  Calls Tryz.prog 20 #[.pointer (some ⟨b,0,none⟩),.int .u8 n] w fun e w'=>∃ v',e = .returned .nilIface∧Qm b (l++[c]) v' w'∧AR (fun k=>k=b∨v.ownBlock=some k) w w'∧∀ k,v'.ownBlock=some k->v.ownBlock=some k∨w.heap.size<=k:=by
 subst hn;have H:=Lib.hid h;have hlt:=XR h;have hln:(Lib.byteCells l).length=l.length:=Lib.byteCells_length l;obtain⟨i0,hi,hz0,hz1,hz2⟩:=info_parts ej;have HI:=Lib.hid hi;have HZ:=Lib.hid hz0;have H1:=Lib.hid hz1;have H2:=Lib.hid hz2;have HLN:=Lib.hid hln;clear h hi hz0 hz1 hz2 hln
 go_enter Tryz.func20,Tryz.ntmps20
 go_wp2_with (first
  | (go_at_call 40;refine (AAW H.out).mono ?_;rintro e w1 ⟨rfl,m1,m2,m3,m4⟩;have c1:w1.cell? ⟨b,1,none⟩=some v:=(by unfold World.cell?;rw[m1];rfl);have hb1:b<w1.heap.size:=Nat.lt_of_lt_of_le hlt m4.size;have M1:=Lib.hid m1;have M2:=Lib.hid m2;have M3:=Lib.hid m3;have M4:=Lib.hid m4;clear m1 m2 m3 m4)
  | (at_builtin;go_loud (refine wpList_append_lies _ rfl _ _ 22 rfl b 5 i0 _ 1 1 po HI.out HZ.out H1.out H2.out rfl (by omega) v (Lib.byteCells l).length (Lib.byteCells l) rfl (M2.out.alloc _) ⟨w1.heap.size,0,none⟩ 1 1 [.int .u8 (c.toNat:Int)] rfl rfl (World.news_of_block (cs:=#[.int .u8 (c.toNat:Int)]) (t:=5) (fr:=(0,0)) (heap_alloc_new w1 _)) (by simp[Value.oneCell']) (by omega) (by rw[HLN.out];unfold maxLen;omega) (by rw[HLN.out];omega) (by simp;omega) (w1.heap.size+1) (by simp) ?_);intro g2 cap2 w2 o2 gr2 at2 lt2;have hb3:b<(w1.alloc (.cells #[.int .u8 (c.toNat:Int)] 5)).heap.size:=(by simp;omega);have m5:(w1.alloc (.cells #[.int .u8 (c.toNat:Int)] 5)).heap[b]? = _:=(Go.heap_alloc_old w1 _ hb1).trans M1.out;have e2:w2.heap[b]? = _:=(gr2.block b hb3 (fun e=>M3.out e.symm)).trans m5;have c2:w2.cell? ⟨b,1,none⟩=some v:=(by unfold World.cell?;rw[e2];rfl);have f2:w2.frozen? ⟨b,1,none⟩=false:=(by unfold World.frozen?;rw[e2];rfl);have O2:=Lib.hid o2;have G2:=Lib.hid gr2;have M5:=Lib.hid m5;have AT:=Lib.hid at2;clear o2 gr2 e2 m5 at2 lt2))
 go_ret
 have o2:=O2.out;have ec:Lib.byteCells l++[Value.int .u8 (c.toNat:Int)]=Lib.byteCells (l++[c]):=by rw[Lib.byteCells_append];rfl
 rw[ec] at o2;have hpt:=kj M5.out M3.out hb3 (M4.out.trans (AR.alloc _ w1 _)) (l:=l) (s:=[c]) (by rw[show (Lib.byteCells (l++[c])).length=(Lib.byteCells l).length+1 by rw[Lib.byteCells_length,Lib.byteCells_length,List.length_append];rfl];exact o2) G2.out
 exact⟨_,rfl,hpt.1,hpt.2,fun k hk=>by
  obtain rfl:g2=k:=by simpa[Value.ownBlock] using hk
  have hsz:=M4.out.size;rcases AT.out with c|c
  ·exact .inl c
  ·have hw1:g2=w1.heap.size+1:=c;exact .inr (by omega)⟩
end Go.Proofs.YteaicgcfpcklkaaGreatDoor
namespace Go.Proofs.YteaicgcfpcklkaaGreatDoor.rund
open Go Go.RowKit Go.Proofs.YteaicgcfpcklkaaGreatDoor Go.Proofs.YteaicgcfpcklkaaGreatDoor.plot Go.Proofs.YteaicgcfpcklkaaGreatDoor.rdc
def OV(db nb:Nat)(v:Value):Nat->Prop:=fun b=>b=db∨b=nb∨v.ownBlock=some b
theorem Qm.same{K:Nat->Prop}{b:Nat}{l:List UInt8}{v:Value}{w w':World}(h:Qm b l v w)(hs:AR K w w')(hb:¬ K b)(hv:∀ k,v.ownBlock=some k->¬ K k):Qm b l v w':=by
 have hlt:=XR h;obtain⟨p,hp,h1,h2,h3⟩:=h;exact⟨p,hp,by rw[hs.block b hlt hb,h1],NO h2 hs hv,h3⟩
structure RD(w0:World)(db nb:Nat)(va vb v:Value)(d:Bc)(acc:List UInt8)(ws:World):Prop where
 bel:Below w0.heap.size w0 ws
 hd:ws.heap[db]? = some (.cells #[va,vb,.string ⟨d.Log.toArray⟩] 29 (0,0))
 bl:Qm nb acc v ws
 ne:db≠nb
 dv:v.ownBlock≠some db
 g1:w0.heap.size<=db
 g2:w0.heap.size<=nb
 sa:VR (OV db nb v) ws va (.sl 5 (List.map BV d.Stars))
 sb:VR (OV db nb v) ws vb (.sl 5 (List.map AN d.Estimates))
theorem RD.lt{w0:World}{db nb:Nat}{va vb v:Value}{d:Bc}{acc:List UInt8}{ws:World}(h:RD w0 db nb va vb v d acc ws):db<ws.heap.size:=by
 rcases Nat.lt_or_ge db ws.heap.size with c|c
 ·exact c
 ·have:=h.hd;rw[Array.getElem?_eq_none c] at this;cases this
theorem RD.vlt{w0:World}{db nb:Nat}{va vb v:Value}{d:Bc}{acc:List UInt8}{ws:World}(h:RD w0 db nb va vb v d acc ws){k:Nat}(hk:v.ownBlock=some k):nb<=k∧k<ws.heap.size:=by
 obtain⟨p,hp,h1,h2,h3⟩:=h.bl;exact QS h2 hk
theorem RD.lo{w0:World}{db nb:Nat}{va vb v:Value}{d:Bc}{acc:List UInt8}{ws:World}(h:RD w0 db nb va vb v d acc ws):∀ b,OV db nb v b->b<ws.heap.size:=by
 rintro b (rfl|rfl|c)
 ·exact h.lt
 ·exact XR h.bl
 ·exact (h.vlt c).2
theorem RD.ge{w0:World}{db nb:Nat}{va vb v:Value}{d:Bc}{acc:List UInt8}{ws:World}(h:RD w0 db nb va vb v d acc ws):∀ b,OV db nb v b->w0.heap.size<=b:=by
 rintro b (rfl|rfl|c)
 ·exact h.g1
 ·exact h.g2
 ·exact Nat.le_trans h.g2 (h.vlt c).1
theorem RD.gt{w0:World}{db nb:Nat}{va vb v:Value}{d:Bc}{acc:List UInt8}{ws:World}(h:RD w0 db nb va vb v d acc ws)(hg:GT (fun _=>False) w0):GT (OV db nb v) ws :=
 hg.mono (FM h.bel) fun b hb c=>by have:=h.ge b c;omega
theorem RD.still{w0:World}{db nb:Nat}{va vb v:Value}{d:Bc}{acc:List UInt8}{ws w':World}(h:RD w0 db nb va vb v d acc ws)(hs:AR (fun _=>False) ws w'):RD w0 db nb va vb v d acc w' :=
 ⟨h.bel.trans ((CW hs).mono h.bel.size),by rw[hs.block db h.lt id,h.hd],Qm.same h.bl hs id (fun _ _=>id),h.ne,h.dv,h.g1,h.g2,h.sa.mono (hs.mono fun _ _ c=>c.elim) fun _ _ c=>c,h.sb.mono (hs.mono fun _ _ c=>c.elim) fun _ _ c=>c⟩
theorem RD.write{w0:World}{db nb:Nat}{va vb v v':Value}{d:Bc}{acc acc':List UInt8}{ws w':World}(h:RD w0 db nb va vb v d acc ws)(hb:Qm nb acc' v' w')(hs:AR (fun k=>k=nb∨v.ownBlock=some k) ws w')(hv:∀ k,v'.ownBlock=some k->v.ownBlock=some k∨ws.heap.size<=k):
  RD w0 db nb va vb v' d acc' w':=by
 have hs':AR (OV db nb v) ws w':=hs.mono fun _ _ c=>.inr c
 have hsub:∀ b,b<ws.heap.size->OV db nb v' b->OV db nb v b:=by
  rintro b hb (c|c|c)
  ·exact .inl c
  ·exact .inr (.inl c)
  ·rcases hv b c with c|c
   ·exact .inr (.inr c)
   ·omega
 refine⟨⟨hs.os.trans h.bel.os,hs.tape.trans h.bel.tape,hs.output.trans h.bel.output,Nat.le_trans h.bel.size hs.size,fun b hb=>?_⟩,?_,hb,h.ne,fun c=>?_,h.g1,h.g2,h.sa.mono hs' hsub,h.sb.mono hs' hsub⟩
 ·rw[hs.block b (Nat.lt_of_lt_of_le hb h.bel.size) (fun c=>by have:=h.ge b (.inr c);omega),h.bel.block b hb]
 ·rw[hs.block db h.lt (fun c=>c.elim h.ne h.dv),h.hd]
 ·rcases hv db c with c|c
  ·exact h.dv c
  ·have:=h.lt;omega
theorem RD.put{w0:World}{db nb:Nat}{va vb v va' vb':Value}{d d':Bc}{acc:List UInt8}{ws w':World}(h:RD w0 db nb va vb v d acc ws)(hs:AR (fun k=>k=db) ws w')
  (hd:w'.heap[db]? = some (.cells #[va',vb',.string ⟨d'.Log.toArray⟩] 29 (0,0))) (sa:VR (OV db nb v) ws va' (.sl 5 (List.map BV d'.Stars))) (sb:VR (OV db nb v) ws vb' (.sl 5 (List.map AN d'.Estimates))) :
  RD w0 db nb va' vb' v d' acc w':=by
 have hs':AR (OV db nb v) ws w':=hs.mono fun _ _ c=>.inl c
 refine⟨⟨hs.os.trans h.bel.os,hs.tape.trans h.bel.tape,hs.output.trans h.bel.output,Nat.le_trans h.bel.size hs.size,fun b hb=>?_⟩,hd,Qm.same h.bl hs (fun c=>h.ne c.symm) (fun k hk c=>h.dv (by rw[hk,show k=db from c])),h.ne,h.dv,h.g1,h.g2,sa.mono hs' fun _ _ c=>c,sb.mono hs' fun _ _ c=>c⟩;rw[hs.block b (Nat.lt_of_lt_of_le hb h.bel.size) (fun c=>by have c:b=db:=c;have:=h.g1;omega),h.bel.block b hb]
structure NE(db nb:Nat)(v:Value)(b off:Nat)(l:List (List UInt8))(w:World):Prop where
 at_:Nq w b off l
 lt:0<l.length->b<w.heap.size
 no:0<l.length->¬ OV db nb v b
theorem NE.still{db nb:Nat}{v:Value}{b off:Nat}{l:List (List UInt8)}{w w':World}(h:NE db nb v b off l w)(hs:AR (fun _=>False) w w'):NE db nb v b off l w' :=
 ⟨fun k hk=>by rw[← h.at_ k hk];exact Ek (hs.block b (h.lt (by omega)) id),fun c=>Nat.lt_of_lt_of_le (h.lt c) hs.size,h.no⟩
theorem NE.write{db nb:Nat}{v v':Value}{b off:Nat}{l:List (List UInt8)}{w w':World}(h:NE db nb v b off l w)(hs:AR (fun k=>k=nb∨v.ownBlock=some k) w w')(hv:∀ k,v'.ownBlock=some k->v.ownBlock=some k∨w.heap.size<=k):NE db nb v' b off l w':=by
 refine⟨fun k hk=>?_,fun c=>Nat.lt_of_lt_of_le (h.lt c) hs.size,fun c=>?_⟩
 ·rw[← h.at_ k hk];exact Ek (hs.block b (h.lt (by omega)) fun c=>h.no (by omega) (.inr c))
 ·rintro (e|e|e)
  ·exact h.no c (.inl e)
  ·exact h.no c (.inr (.inl e))
  ·rcases hv b e with e|e
   ·exact h.no c (.inr (.inr e))
   ·have:=h.lt c;omega
theorem NE.put{db nb:Nat}{v:Value}{b off:Nat}{l:List (List UInt8)}{w w':World}(h:NE db nb v b off l w)(hs:AR (fun k=>k=db) w w'):NE db nb v b off l w' :=
 ⟨fun k hk=>by rw[← h.at_ k hk];exact Ek (hs.block b (h.lt (by omega)) fun c=>h.no (by omega) (.inl c)),fun c=>Nat.lt_of_lt_of_le (h.lt c) hs.size,h.no⟩
theorem Vb(l:List (List UInt8)):∀ m,Ck (l++m)=Ck l++Ck m:=by
 induction l with
 | nil=>intro m;rfl
 | cons x r ih=>intro m;show x++10::Ck (r++m)=(x++10::Ck r)++Ck m;rw[ih];simp
theorem Us{l:List (List UInt8)}{j:Nat}(h:j<l.length):Ck (l.take (j+1))=Ck (l.take j)++l.getD j default++[10]:=by
 rw[List.take_succ_eq_append_getElem h,Vb,gdE,geE h];simp[Ck]
theorem Ps{l:List (List UInt8)}{j:Nat}(h:j<l.length):(Ck (l.take j)).length+(l.getD j default).length+1<=(Ck l).length:=by
 have h1:Ck l=Ck (l.take (j+1))++Ck (l.drop (j+1)):=by rw[← Vb,List.take_append_drop]
 rw[h1,Us h];simp;omega
theorem AFY{w:World}{b:Nat}{v0 v1 v2:Value}{T:TypeId}(h:w.heap[b]? = some (.cells #[v0,v1,v2] T (0,0))):
  w.cell? ⟨b,0,none⟩=some v0∧w.cell? ⟨b,1,none⟩=some v1∧w.cell? ⟨b,2,none⟩=some v2∧∀ j,w.frozen? ⟨b,j,none⟩=false:=by
 refine⟨?_,?_,?_,fun j=>?_⟩
 ·unfold World.cell?;rw[h];rfl
 ·unfold World.cell?;rw[h];rfl
 ·unfold World.cell?;rw[h];rfl
 ·unfold World.frozen?;rw[h];rfl
theorem set3{w:World}{b:Nat}{v0 v1 v2:Value}{T:TypeId}(u0 u1 u2:Value)(h:w.heap[b]? = some (.cells #[v0,v1,v2] T (0,0))):
  (((w.setCell ⟨b,0,none⟩ u0).setCell ⟨b,1,none⟩ u1).setCell ⟨b,2,none⟩ u2).heap[b]? = some (.cells #[u0,u1,u2] T (0,0))∧AR (fun k=>k=b) w (((w.setCell ⟨b,0,none⟩ u0).setCell ⟨b,1,none⟩ u1).setCell ⟨b,2,none⟩ u2):=by
 have h0:=Go.heap_setCell_same w b 0 _ _ u0 h;have h1:=Go.heap_setCell_same _ b 1 _ _ u1 h0;have h2:=Go.heap_setCell_same _ b 2 _ _ u2 h1;exact⟨h2.trans rfl,((EU (w:=w) ⟨b,0,none⟩ u0).trans (EU ⟨b,1,none⟩ u1)).trans (EU ⟨b,2,none⟩ u2)⟩
theorem AGq{db nb:Nat}{v vo:Value}{w:World}{l:List (List UInt8)}(h:VR (OV db nb v) w vo (.sl 1 (List.map AV.str l))):∃ a cap b off,vo = .slice a l.length cap∧(0<l.length->a=some ⟨b,off,none⟩)∧NE db nb v b off l w:=by
 by_cases h0:0<l.length
 ·obtain⟨b,off,cap,e,hb,hn,hat,_⟩:=words_of h h0;exact⟨_,cap,b,off,e,fun _=>rfl,hat,fun _=>hb,fun _=>hn⟩
 ·cases h with
  | @sl a n cap sz els b off rd hn hcap hsz ha hc hw hr=>
   have hl:(List.map AV.str l).length=l.length:=by simp
   exact⟨a,cap,0,0,by rw[hn,hl],fun c=>absurd c h0,fun k hk=>by omega,fun c=>absurd c h0,fun c=>absurd c h0⟩
theorem qK{text acc r:List UInt8}{d:Bc}(ht:text≠[])(h:CK 0 text d acc=some r):acc.length+11<=1099511627776∧r=acc++[101,114,114,111,114,32,102,117,108,108,10]:=by
 rw[CK,if_neg ht] at h;obtain⟨h1,h⟩:=AC h;exact⟨of_decide_eq_true h1,(Option.some.inj h).symm⟩
theorem qL{k:Nat}{text acc r:List UInt8}{d:Bc}(ht:text≠[])(h:CK (k+1) text d acc=some r):∃ y z,Vr text [10]=some y∧He d y.1=some z ∧
  (acc++Ck (if z.2.2=true then z.2.1 else [[63]])).length<=1099511627776∧z.2.1.length<=1099511627776∧CK k y.2.1 (if z.2.2=true then z.1 else d) (acc++Ck (if z.2.2=true then z.2.1 else [[63]]))=some r:=by
 rw[CK,if_neg ht] at h;obtain⟨y,hy,h⟩:=AB h;obtain⟨z,hz,h⟩:=AB h;obtain⟨h1,h⟩:=AC h;simp only[baT,dtE] at h1;exact⟨y,z,hy,hz,h1.1,h1.2,h⟩
theorem sl_of{S:Nat->Prop}{w:World}{v:Value}{sz:Nat}{els:List AV}(h:VR S w v (.sl sz els)):∃ a n c,v = .slice a n c:=by
 cases h;exact⟨_,_,_,rfl⟩
def RunEnd(r:List UInt8)(w:World)(e:Ending)(w':World):Prop:=e = .returned (.string ⟨r.toArray⟩)∧Below w.heap.size w w'
theorem run_all(text:List UInt8)(d0:Bc)(r:List UInt8)(w:World)(hr:CK 60 text d0 []=some r)(hg:GT (fun _=>False) w)
  (hND:Calls Tryz.prog 6 #[] w fun e w1=>∃ va vb,e = .returned (.agg #[va,vb,.string ⟨d0.Log.toArray⟩])∧Below w.heap.size w w1∧VR (fun _=>False) w1 va (.sl 5 (List.map BV d0.Stars))∧VR (fun _=>False) w1 vb (.sl 5 (List.map AN d0.Estimates)))
  (hCU:∀ (t:List UInt8) (y:List UInt8×List UInt8×Bool) (W:World),Below w.heap.size w W->Vr t [10]=some y->Calls Tryz.prog 19 #[.string ⟨t.toArray⟩,.string ⟨#[10]⟩] W fun e W'=>e = .returned (.tuple #[.string ⟨y.1.toArray⟩,.string ⟨y.2.1.toArray⟩,.bool y.2.2])∧AR (fun _=>False) W W')
  (hST:∀ (O:Nat->Prop) (d:Bc) (line:List UInt8) (z:Bc×List (List UInt8)×Bool) (va vb:Value) (W:World),(∀ b,O b->b<W.heap.size)->GT O W->VR O W va (.sl 5 (List.map BV d.Stars))->VR O W vb (.sl 5 (List.map AN d.Estimates))->He d line=some z ->
   Calls Tryz.prog 15 #[.agg #[va,vb,.string ⟨d.Log.toArray⟩],.string ⟨line.toArray⟩] W fun e W'=>∃ va' vb' vo,e = .returned (.tuple #[.agg #[va',vb',.string ⟨z.1.Log.toArray⟩],vo,.bool z.2.2])∧AR (fun _=>False) W W'∧VR O W' va' (.sl 5 (List.map BV z.1.Stars))∧VR O W' vb' (.sl 5 (List.map AN z.1.Estimates))∧VR O W' vo (.sl 1 (List.map AV.str z.2.1))) :
  Calls Tryz.prog 10 #[.string ⟨text.toArray⟩] w (RunEnd r w):=by
 have HR:=Lib.hid hr;have HCU:=Lib.hid hCU;have HST:=Lib.hid hST;have HG:=Lib.hid hg;clear hr hCU hST hg
 go_enter Tryz.func10,Tryz.ntmps10
 go_wp2_with (go_at_call 6;refine hND.mono ?_;rintro e w1 ⟨va,vb,rfl,hb1,hva,hvb⟩;obtain⟨a1,n1,c1,rfl⟩:=sl_of hva;obtain⟨a2,n2,c2,rfl⟩:=sl_of hvb;have HVA:=Lib.hid hva;have HVB:=Lib.hid hvb;clear hva hvb)
 obtain⟨db,hdb⟩:∃ b,b=w1.heap.size:=⟨_,rfl⟩
 have hww:RD w db (db+1) (.slice a1 n1 c1) (.slice a2 n2 c2) (.slice none 0 0) d0 [] ((w1.alloc (.cells #[.slice a1 n1 c1,.slice a2 n2 c2,.string ⟨d0.Log.toArray⟩] 29)).alloc (.cells #[.pointer none,.slice none 0 0] 48)):=by
  have s1:=AR.alloc (fun _=>False) w1 (.cells #[.slice a1 n1 c1,.slice a2 n2 c2,.string ⟨d0.Log.toArray⟩] 29);have s2:=AR.alloc (fun _=>False) (w1.alloc (.cells #[.slice a1 n1 c1,.slice a2 n2 c2,.string ⟨d0.Log.toArray⟩] 29)) (.cells #[.pointer none,.slice none 0 0] 48);have hsz:(w1.alloc (.cells #[.slice a1 n1 c1,.slice a2 n2 c2,.string ⟨d0.Log.toArray⟩] 29)).heap.size=db+1:=by simp[hdb]
  have hnew:∀ b,b<w1.heap.size->OV db (db+1) (.slice none 0 0) b->False:=fun b hb c=>by
   rcases c with c|c|c
   ·omega
   ·omega
   ·cases c
  refine⟨(hb1.alloc hb1.size _).alloc (Nat.le_trans hb1.size s1.size) _,?_,⟨.pointer none,.inl rfl,?_,World.ownsRow_nil _ _ _ _,(fun c=>by cases c)⟩,by omega,(fun c=>by cases c),by rw[hdb];exact hb1.size,by have:=hb1.size;omega,?_,?_⟩
  ·rw[s2.block db (by omega) id,hdb];exact heap_alloc_new w1 _
  ·rw[← hsz];exact heap_alloc_new _ _
  ·exact HVA.out.mono (s1.trans s2) hnew
  ·exact HVB.out.mono (s1.trans s2) hnew
 obtain⟨ww,hwq⟩:∃ ww,ww=((w1.alloc (.cells #[.slice a1 n1 c1,.slice a2 n2 c2,.string ⟨d0.Log.toArray⟩] 29)).alloc (.cells #[.pointer none,.slice none 0 0] 48)):=⟨_,rfl⟩;rw[← hwq] at hww ⊢;rw[← hdb];have HWW:=Lib.hid hww;clear hww hwq hdb hb1 HVA HVB hND
 go_loopw [0,5] (fun t n ws=>∃ (k:Nat) (tx acc:List UInt8) (d:Bc) (va vb v:Value),k<=60∧t = .string ⟨tx.toArray⟩∧n = .int .i64 (60-(k:Int))∧Hid (RD w db (db+1) va vb v d acc ws)∧Hid (CK k tx d acc=some r)) (fun t n _=>60-(intOf n).toNat)
 case atStart=>exact⟨60,text,[],d0,_,_,_,Nat.le_refl _,rfl,rfl,HWW,HR⟩
 case round=>
  clear HWW HR;obtain⟨k,tx,acc,d,va,vb,v,hk,rfl,rfl,hrd,hit⟩:=hrel
  by_cases htx:tx=[]
  ·subst htx
   obtain rfl:r=acc:=by
    have h:=hit.out;cases k<;>(rw[CK,if_pos rfl] at h;exact (Option.some.inj h).symm)
   go_wp2_with (go_at_call 21;refine (aW (gh hrd.out.bl)).mono ?_;rintro e w7 ⟨rfl,hb7⟩)
   go_ret
   exact⟨rfl,hrd.out.bel.trans (hb7.mono hrd.out.g2)⟩
  ·cases k with
   | zero=>
    obtain⟨hl,rfl⟩:=qK htx hit.out;have hne:(tx==[])=false:=by simpa using htx
    clear hit
    go_wp2_with (first
     | (go_at_call 18;refine (aV (s:=[101,114,114,111,114,32,102,117,108,108,10]) (l:=acc) hrd.out.bl (by simp;omega) rfl).mono ?_;rintro e w5 ⟨v5,rfl,hb5,hs5,hv5⟩;have HR5:=Lib.hid (hrd.out.write hb5 hs5 hv5);clear hb5 hs5 hv5)
     | (go_at_call 21;refine (aW (gh HR5.out.bl)).mono ?_;rintro e w7 ⟨rfl,hb7⟩))
    go_ret
    exact⟨rfl,HR5.out.bel.trans (hb7.mono HR5.out.g2)⟩
   | succ k=>
    obtain⟨y,z,hy,hz,hl1,hl2,hnext⟩:=qL htx hit.out;have hne:(tx==[])=false:=by simpa using htx
    have hn60:((60:Int)-((k+1:Nat):Int)==60)=false:=by rw[beq_eq_false_iff_ne];omega
    have HY:=Lib.hid hy;have HZ:=Lib.hid hz;have HL1:=Lib.hid hl1;have HL2:=Lib.hid hl2;have HNX:=Lib.hid hnext;clear hy hz hl1 hl2 hnext hit
    go_wp2_with (go_at_call 19;refine (HCU.out tx y _ hrd.out.bel HY.out).mono ?_;rintro e w2 ⟨rfl,hs2⟩;have HR2:=Lib.hid (hrd.out.still hs2);obtain⟨d20,d21,d22,_⟩:=AFY HR2.out.hd)
    obtain⟨dz,oz,kz⟩:=z;cases kz with
    | true=>
     go_wp2_with (go_at_call 15;refine (HST.out (OV db (db+1) v) d y.1 (dz,oz,true) va vb _ HR2.out.lo (HR2.out.gt HG.out) HR2.out.sa HR2.out.sb HZ.out).mono ?_;rintro e w3 ⟨va3,vb3,vo3,rfl,hs3,ha3,hb3,ho3⟩;obtain⟨e1,m1,f1,rfl⟩:=sl_of ha3;obtain⟨e2,m2,f2,rfl⟩:=sl_of hb3;have HR3:=Lib.hid (HR2.out.still hs3);have HA3:=Lib.hid ha3;have HB3:=Lib.hid hb3;obtain⟨oa,ocap,ob,ooff,rfl,hoa,hout⟩:=AGq ho3;have HOA:=Lib.hid hoa;have HOUT:=Lib.hid hout;clear hoa hout;obtain⟨d40,d41,d42,d4f⟩:=AFY (HR3.out.still (AR.alloc (fun _=>False) w3 (.cells #[.slice e1 m1 f1,.slice e2 m2 f2,.string ⟨dz.Log.toArray⟩] 29))).hd;have f40:=d4f 0;have f41:=d4f 1;have f42:=d4f 2;clear d4f;clear ha3 hb3 ho3)
     have hp:=set3 (.slice e1 m1 f1) (.slice e2 m2 f2) (.string ⟨dz.Log.toArray⟩) (HR3.out.still (AR.alloc (fun _=>False) w3 (.cells #[.slice e1 m1 f1,.slice e2 m2 f2,.string ⟨dz.Log.toArray⟩] 29))).hd;obtain⟨w4,hw4⟩:∃ w4,w4=w3.alloc (.cells #[.slice e1 m1 f1,.slice e2 m2 f2,.string ⟨dz.Log.toArray⟩] 29):=⟨_,rfl⟩;have hs34:AR (fun _=>False) w3 w4:=by rw[hw4];exact AR.alloc _ w3 _
     rw[← hw4] at hp ⊢;have hr4:=(HR3.out.still hs34).put (d':=dz) hp.2 hp.1 (HA3.out.mono (hs34.mono fun _ _ c=>c.elim) fun _ _ c=>c) (HB3.out.mono (hs34.mono fun _ _ c=>c.elim) fun _ _ c=>c);have ho4:=(HOUT.out.still hs34).put hp.2;obtain⟨w5,hw5⟩:∃ w5,w5=(((w4.setCell ⟨db,0,none⟩ (.slice e1 m1 f1)).setCell ⟨db,1,none⟩ (.slice e2 m2 f2)).setCell ⟨db,2,none⟩ (.string ⟨dz.Log.toArray⟩)):=⟨_,rfl⟩;rw[← hw5] at hr4 ho4 ⊢;have HR4:=Lib.hid hr4;have HO4:=Lib.hid ho4;clear hr4 ho4 hw5 hp hs34 hw4 HA3 HB3 HOUT HR3 d40 d41 d42 f40 f41 f42 hs3
     go_loopw [42] (fun i wr=>∃ (j:Nat) (v':Value),j<=oz.length∧i = .int .i64 j∧Hid (RD w db (db+1) (.slice e1 m1 f1) (.slice e2 m2 f2) v' dz (acc++Ck (oz.take j)) wr)∧Hid (NE db (db+1) v' ob ooff oz wr)) (fun i _=>oz.length-(intOf i).toNat)
     case atStart=>exact⟨0,v,Nat.zero_le _,rfl,by simpa[Ck] using HR4,HO4⟩
     case round=>
      clear HR4 HO4;obtain⟨j,v',hj,rfl,hr5,ho5⟩:=hrel
      by_cases hjl:j<oz.length
      ·obtain⟨X,hX⟩:∃ X,X=oz.getD j default:=⟨_,rfl⟩;have q0:=ho5.out.at_ j hjl;rw[← hX] at q0;have hlen:=Ps hjl;rw[← hX] at hlen;have hL1:(acc++Ck oz).length<=1099511627776:=HL1.out;have hL2:oz.length<=1099511627776:=HL2.out;have hnx:=Us hjl;rw[← hX] at hnx;have HNX2:=Lib.hid hnx;have hj0:(0:Int)<=(j:Int):=by omega
       have hj1:(j:Int)<(oz.length:Int):=by omega
       obtain rfl:=HOA.out (by omega);clear hX hnx;have hb6:acc.length+(Ck (oz.take j)).length+X.length+1<=1099511627776:=by rw[List.length_append] at hL1;omega
       clear hL1 hlen
       go_wp2_with (first
        | (go_at_call 18;refine (aV (s:=X) (l:=acc++Ck (oz.take j)) hr5.out.bl (by rw[List.length_append];omega) rfl).mono ?_;rintro e w6 ⟨v6,rfl,hb6',hs6,hv6⟩;have HR6:=Lib.hid (hr5.out.write hb6' hs6 hv6);have HO6:=Lib.hid (ho5.out.write hs6 hv6);clear hb6' hs6 hv6)
        | (go_at_call 20;refine (ei (l:=acc++Ck (oz.take j)++X) 10 HR6.out.bl (by rw[List.length_append,List.length_append];omega) rfl).mono ?_;rintro e w7 ⟨v7,rfl,hb7,hs7,hv7⟩;have HR7:=Lib.hid (HR6.out.write hb7 hs7 hv7);have HO7:=Lib.hid (HO6.out.write hs7 hv7);clear hb7 hs7 hv7))
       go_roundw
       case rel=>exact⟨j+1,v7,by omega,by go_num,by rw[HNX2.out];simpa[List.append_assoc] using HR7,HO7⟩
       case measure=>simp[intOf];omega
      ·obtain rfl:j=oz.length:=by omega
       have hr8:=hr5.out;rw[List.take_of_length_le (Nat.le_refl _)] at hr8;have HR8:=Lib.hid hr8;clear hr8 hr5 ho5
       go_wp2
       go_roundw
       case rel=>exact⟨k,y.2.1,acc++Ck oz,dz,(.slice e1 m1 f1),(.slice e2 m2 f2),v',by omega,rfl,by go_num,HR8,HNX⟩
       case measure=>simp[intOf];omega
    | false=>
     go_wp2_with (go_at_call 15;refine (HST.out (OV db (db+1) v) d y.1 (dz,oz,false) va vb _ HR2.out.lo (HR2.out.gt HG.out) HR2.out.sa HR2.out.sb HZ.out).mono ?_;rintro e w3 ⟨va3,vb3,vo3,rfl,hs3,ha3,hb3,ho3⟩;obtain⟨e1,m1,f1,rfl⟩:=sl_of ha3;obtain⟨e2,m2,f2,rfl⟩:=sl_of hb3;have HR3:=Lib.hid (HR2.out.still hs3);have HA3:=Lib.hid ha3;have HB3:=Lib.hid hb3;skip;clear ha3 hb3 ho3)
     have hl3:=HR3.out.lo
     have hO5:NE db (db+1) v (w3.heap.size+1) 0 [[63]] ((w3.alloc (.cells #[.slice e1 m1 f1,.slice e2 m2 f2,.string ⟨dz.Log.toArray⟩] 29)).alloc (.cells #[.string ⟨#[63]⟩] 9)):=by
      have hsz:(w3.alloc (.cells #[.slice e1 m1 f1,.slice e2 m2 f2,.string ⟨dz.Log.toArray⟩] 29)).heap.size=w3.heap.size+1:=by simp
      refine⟨fun q hq=>?_,fun _=>by simp,fun _ c=>by have:=hl3 _ c;omega⟩;obtain rfl:q=0:=by simpa using hq
      rw[← hsz];unfold World.cell?;rw[heap_alloc_new];rfl
     have HR4:=Lib.hid ((HR3.out.still (AR.alloc (fun _=>False) w3 (.cells #[.slice e1 m1 f1,.slice e2 m2 f2,.string ⟨dz.Log.toArray⟩] 29))).still (AR.alloc (fun _=>False) _ (.cells #[.string ⟨#[63]⟩] 9)));obtain⟨w5,hw5⟩:∃ w5,w5=((w3.alloc (.cells #[.slice e1 m1 f1,.slice e2 m2 f2,.string ⟨dz.Log.toArray⟩] 29)).alloc (.cells #[.string ⟨#[63]⟩] 9)):=⟨_,rfl⟩;rw[← hw5] at HR4 hO5 ⊢;have HO4:=Lib.hid hO5;clear hw5 hO5 hl3 HA3 HB3 HR3 hs3
     go_loopw [42] (fun i wr=>∃ (j:Nat) (v':Value),j<=1∧i = .int .i64 j∧Hid (RD w db (db+1) va vb v' d (acc++Ck (([[63]]:List (List UInt8)).take j)) wr)∧Hid (NE db (db+1) v' (w3.heap.size+1) 0 [[63]] wr)) (fun i _=>1-(intOf i).toNat)
     case atStart=>exact⟨0,v,Nat.zero_le _,rfl,by simpa[Ck] using HR4,HO4⟩
     case round=>
      clear HR4 HO4;obtain⟨j,v',hj,rfl,hr5,ho5⟩:=hrel
      by_cases hjl:j<1
      ·obtain⟨X,hX⟩:∃ X,X=([[63]]:List (List UInt8)).getD j default:=⟨_,rfl⟩;have q0:=ho5.out.at_ j hjl;rw[← hX,Nat.zero_add] at q0;have hlen:=Ps (l:=[[63]]) (j:=j) hjl;rw[← hX] at hlen;have hL1:(acc++Ck [[63]]).length<=1099511627776:=HL1.out;have hnx:=Us (l:=[[63]]) (j:=j) hjl;rw[← hX] at hnx;have HNX2:=Lib.hid hnx;have hj0:(0:Int)<=(j:Int):=by omega
       have hj1:(j:Int)<(1:Int):=by omega
       clear hX hnx;have hb6:acc.length+(Ck (([[63]]:List (List UInt8)).take j)).length+X.length+1<=1099511627776:=by rw[List.length_append] at hL1;omega
       clear hL1 hlen
       go_wp2_with (first
        | (go_at_call 18;refine (aV (s:=X) (l:=acc++Ck (([[63]]:List (List UInt8)).take j)) hr5.out.bl (by rw[List.length_append];omega) rfl).mono ?_;rintro e w6 ⟨v6,rfl,hb6',hs6,hv6⟩;have HR6:=Lib.hid (hr5.out.write hb6' hs6 hv6);have HO6:=Lib.hid (ho5.out.write hs6 hv6);clear hb6' hs6 hv6)
        | (go_at_call 20;refine (ei (l:=acc++Ck (([[63]]:List (List UInt8)).take j)++X) 10 HR6.out.bl (by rw[List.length_append,List.length_append];omega) rfl).mono ?_;rintro e w7 ⟨v7,rfl,hb7,hs7,hv7⟩;have HR7:=Lib.hid (HR6.out.write hb7 hs7 hv7);have HO7:=Lib.hid (HO6.out.write hs7 hv7);clear hb7 hs7 hv7))
       go_roundw
       case rel=>exact⟨j+1,v7,by omega,by go_num,by rw[HNX2.out];simpa[List.append_assoc] using HR7,HO7⟩
       case measure=>simp[intOf];omega
      ·have hj1:j=1:=by omega
       have hge:¬ ((j:Int)<1):=by omega
       have hr8:=hr5.out;rw[hj1,List.take_of_length_le (show ([[63]]:List (List UInt8)).length<=1 by simp)] at hr8;have HR8:=Lib.hid hr8;clear hr8 hr5 ho5
       go_wp2
       go_roundw
       case rel=>exact⟨k,y.2.1,acc++Ck [[63]],d,va,vb,v',by omega,rfl,by go_num,HR8,HNX⟩
       case measure=>simp[intOf];omega
end Go.Proofs.YteaicgcfpcklkaaGreatDoor.rund
