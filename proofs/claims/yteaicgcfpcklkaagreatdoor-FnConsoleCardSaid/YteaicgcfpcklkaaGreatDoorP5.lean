/- Lemmas and walks, several texts in one. No condition. -/
import Derived.Shelf.Small.Strs
import Derived.Shelf.Strconv.Itoa0
import Derived.Shelf.Strconv.Itoa1
import Derived.Shelf.LaysM
import Derived.Shelf.Strconv.Itoa2
import Derived.Shelf.Strconv.Itoa3
import Derived.Shelf.Strconv.ParseIntEmpty
import Derived.Shelf.Strconv.Clone
import Derived.Shelf.Strconv.SyntaxError
import Derived.Shelf.LaysC
import Derived.Shelf.Strconv.ToError
import Derived.Shelf.Strconv.Lower
import Derived.Shelf.Strconv.ParseUint10
import Derived.Shelf.Strconv.ParseUint10Empty
import Derived.Shelf.Strconv.ParseUint10Any
import Derived.Shelf.Strconv.ParseInt10
import Derived.Shelf.Strconv.RangeError
import Derived.Shelf.Strconv.ToErrorRange
import Derived.Shelf.Strconv.ParseUintEmpty
import Derived.Shelf.Strconv.ParseUint10b64
import Derived.Shelf.Strconv.ParseUint10b32
import Derived.Shelf.Strconv.ParseUint10b16
import Derived.Shelf.Strconv.ParseUint10b8
import Derived.Shelf.Strconv.ParseUint10At
import Derived.Shelf.Strconv.ParseInt10At64
import Derived.Shelf.Strconv.ParseInt10At32
import Derived.Shelf.Strconv.ParseInt10At16
import Derived.Shelf.Strconv.ParseInt10At8
import Derived.Shelf.Strconv.ParseInt10All
import Derived.Shelf.Strconv.ParseIntPublic10
import Derived.Shelf.Strings.Search1
import Derived.Shelf.Strings.Search2
import Derived.Shelf.Strings.Search3
import Derived.Shelf.Strings.Cut
import Derived.Shelf.Strings.Count
import Derived.Shelf.Strings.Shaped
import Derived.Shelf.Strings.Prefix
import Derived.Shelf.Strings.Split
import Derived.Shelf.Unicode.DecodeSlow
import Derived.Test.YteaicgcfpcklkaaGreatDoorProg
import Derived.Test.YteaicgcfpcklkaaGreatDoorP3
import Derived.Lib.SplitLaws
import Derived.Lib.LaidTab
import Derived.Shelf.Strings.Builder1
import Derived.Shelf.Strings.Builder2
import Derived.Shelf.Strings.OnBuilder
import Derived.Shelf.Strings.BuilderF
import Derived.Shelf.Strings.BuilderK
import Derived.Ground.SlgnProg
import Derived.Shelf.SlicesG.Turned
import Derived.WalkKit
import Derived.Lib.Hide
import Derived.Test.YteaicgcfpcklkaaGreatDoorRows
import Derived.Stop.LaidErr
import Derived.Shelf.Vars
import Derived.Handed
import Derived.HandedShaped
import Derived.LaidMore
set_option linter.unusedSimpArgs false
set_option linter.unusedVariables false
set_option maxRecDepth 100000
set_option maxHeartbeats 2000000
namespace Go.Proofs
open Go.Shelf
def Tryz.lays145_ren:Go.Shelf.Ren:=⟨fun|145=>19|220=>41|219=>72|217=>112|225=>113|224=>114|267=>115|266=>163|314=>164|n=>n,fun|9=>9|4=>4|59=>53|3=>3|5=>5|46=>88|146=>211|51=>210|n=>n,fun|1=>0|n=>n⟩
theorem Tryz.lays145:Go.Proofs.Lays.n145 Tryz.prog Tryz.lays145_ren:={
 mixed:=by kernel_rfl
 f145:=Tryz.func19.trans (congrArg some (by kernel_rfl))
 f217:=Tryz.func112.trans (congrArg some (by kernel_rfl))
 f219:=Tryz.func72.trans (congrArg some (by kernel_rfl))
 f220:=Tryz.func41.trans (congrArg some (by kernel_rfl))
 f224:=Tryz.func114.trans (congrArg some (by kernel_rfl))
 f225:=Tryz.func113.trans (congrArg some (by kernel_rfl))
 f266:=Tryz.func163.trans (congrArg some (by kernel_rfl))
 f267:=Tryz.func115.trans (congrArg some (by kernel_rfl))
 f314:=Tryz.func164.trans (congrArg some (by kernel_rfl))
 t3:=Tryz.underlying3
 a3:=Tryz.isAgg3
 z3:=Tryz.sizeOf3
 v3:=Tryz.zeroValue3
 t4:=Tryz.underlying4
 a4:=Tryz.isAgg4
 z4:=Tryz.sizeOf4
 v4:=Tryz.zeroValue4
 t5:=Tryz.underlying5
 a5:=Tryz.isAgg5
 z5:=Tryz.sizeOf5
 v5:=Tryz.zeroValue5
 t9:=Tryz.underlying9
 a9:=Tryz.isAgg9
 z9:=Tryz.sizeOf9
 v9:=Tryz.zeroValue9
 t46:=Tryz.underlying88
 a46:=Tryz.isAgg88
 z46:=Tryz.sizeOf88
 v46:=Tryz.zeroValue88
 t51:=Tryz.underlying210
 a51:=Tryz.isAgg210
 z51:=Tryz.sizeOf210
 v51:=Tryz.zeroValue210
 t59:=Tryz.underlying53
 a59:=Tryz.isAgg53
 z59:=Tryz.sizeOf53
 v59:=Tryz.zeroValue53
 t146:=Tryz.underlying211
 a146:=Tryz.isAgg211
 z146:=Tryz.sizeOf211
 v146:=Tryz.zeroValue211
 g1:=by kernel_rfl }
def Tryz.lays146_ren:Go.Shelf.Ren:=⟨fun|146=>50|221=>82|268=>120|138=>121|143=>122|195=>166|197=>167|218=>168|219=>72|260=>193|217=>112|225=>113|224=>114|267=>115|266=>163|314=>164|n=>n,fun|9=>9|31=>24|3=>3|4=>4|0=>0|105=>214|21=>21|5=>5|46=>88|119=>246|139=>249|138=>248|146=>211|51=>210|n=>n,fun|1=>0|3=>4|4=>5|n=>n⟩
theorem Tryz.lays146:Go.Proofs.Lays.n146 Tryz.prog Tryz.lays146_ren:={
 mixed:=by kernel_rfl
 f138:=Tryz.func121.trans (congrArg some (by kernel_rfl))
 f143:=Tryz.func122.trans (congrArg some (by kernel_rfl))
 f146:=Tryz.func50.trans (congrArg some (by kernel_rfl))
 f195:=Tryz.func166.trans (congrArg some (by kernel_rfl))
 f197:=Tryz.func167.trans (congrArg some (by kernel_rfl))
 f217:=Tryz.func112.trans (congrArg some (by kernel_rfl))
 f218:=Tryz.func168.trans (congrArg some (by kernel_rfl))
 f219:=Tryz.func72.trans (congrArg some (by kernel_rfl))
 f221:=Tryz.func82.trans (congrArg some (by kernel_rfl))
 f224:=Tryz.func114.trans (congrArg some (by kernel_rfl))
 f225:=Tryz.func113.trans (congrArg some (by kernel_rfl))
 f260:=Tryz.func193.trans (congrArg some (by kernel_rfl))
 f266:=Tryz.func163.trans (congrArg some (by kernel_rfl))
 f267:=Tryz.func115.trans (congrArg some (by kernel_rfl))
 f268:=Tryz.func120.trans (congrArg some (by kernel_rfl))
 f314:=Tryz.func164.trans (congrArg some (by kernel_rfl))
 t0:=Tryz.underlying0
 a0:=Tryz.isAgg0
 z0:=Tryz.sizeOf0
 v0:=Tryz.zeroValue0
 t3:=Tryz.underlying3
 a3:=Tryz.isAgg3
 z3:=Tryz.sizeOf3
 v3:=Tryz.zeroValue3
 t4:=Tryz.underlying4
 a4:=Tryz.isAgg4
 z4:=Tryz.sizeOf4
 v4:=Tryz.zeroValue4
 t5:=Tryz.underlying5
 a5:=Tryz.isAgg5
 z5:=Tryz.sizeOf5
 v5:=Tryz.zeroValue5
 t9:=Tryz.underlying9
 a9:=Tryz.isAgg9
 z9:=Tryz.sizeOf9
 v9:=Tryz.zeroValue9
 t21:=Tryz.underlying21
 a21:=Tryz.isAgg21
 z21:=Tryz.sizeOf21
 v21:=Tryz.zeroValue21
 t31:=Tryz.underlying24
 a31:=Tryz.isAgg24
 z31:=Tryz.sizeOf24
 v31:=Tryz.zeroValue24
 t46:=Tryz.underlying88
 a46:=Tryz.isAgg88
 z46:=Tryz.sizeOf88
 v46:=Tryz.zeroValue88
 t51:=Tryz.underlying210
 a51:=Tryz.isAgg210
 z51:=Tryz.sizeOf210
 v51:=Tryz.zeroValue210
 t105:=Tryz.underlying214
 a105:=Tryz.isAgg214
 z105:=Tryz.sizeOf214
 v105:=Tryz.zeroValue214
 t119:=Tryz.underlying246
 a119:=Tryz.isAgg246
 z119:=Tryz.sizeOf246
 t138:=Tryz.underlying248
 a138:=Tryz.isAgg248
 z138:=Tryz.sizeOf248
 v138:=Tryz.zeroValue248
 t139:=Tryz.underlying249
 a139:=Tryz.isAgg249
 z139:=Tryz.sizeOf249
 v139:=Tryz.zeroValue249
 t146:=Tryz.underlying211
 a146:=Tryz.isAgg211
 z146:=Tryz.sizeOf211
 v146:=Tryz.zeroValue211
 g1:=by kernel_rfl
 g3:=by kernel_rfl
 g4:=by kernel_rfl }
end Go.Proofs
namespace Go.Proofs.YteaicgcfpcklkaaGreatDoor
open Go Go.RowKit
theorem cX{w:World}(h:GT (fun _=>False) w):∃ m,w.cell? ⟨0,0,none⟩=some (.int .i64 m):=by
 obtain⟨_,cs,T,fz,hh,m,hm⟩:=h (0,fun cs=>∃ m,cs = #[.int .i64 m]) (by
  unfold iJ
  repeat (first|exact List.mem_cons_self|apply List.mem_cons_of_mem))
 refine⟨m,?_⟩;have hm':cs = #[.int .i64 m]:=hm;subst hm';simp only[World.cell?,hh];rfl
theorem AEA:AQ Tryz.prog 19 ML:=by
 refine nK fun s p w hl hg=>?_
 obtain⟨m,hm⟩:=cX hg;have he:=Go.Proofs.enters_of (P:=Tryz.prog) Tryz.func19 (by kernel_rfl) rfl;have hc:=Any.strings_Cut Tryz.lays145 ⟨s.toArray⟩ ⟨p.toArray⟩ m w hl hm;unfold CZ;rw[he];refine hc.mono fun e w' ⟨h1,n,h2⟩=>⟨h1,?_⟩
 subst h2;exact⟨rfl,rfl,rfl,Nat.le_refl _,fun _ _ _=>rfl⟩
theorem YY(s p:List UInt8):(Lib.splitB ⟨p.toArray⟩ 0 (Lib.count s p) ⟨s.toArray⟩).map Value.string=(Lib.split s p).map fun l=>Value.string ⟨l.toArray⟩:=by
 have h:=Lib.splitB_data ⟨p.toArray⟩ 0 (Lib.count s p) ⟨s.toArray⟩;have h':(Lib.splitB ⟨p.toArray⟩ 0 (Lib.count s p) ⟨s.toArray⟩).map (·.data.toList)=Lib.split s p:=h;rw[← h',List.map_map];refine List.map_congr_left fun b _=>?_
 rfl
theorem tb:AQ Tryz.prog 50 KS:=by
 refine gB (T:=9) fun s p w hl hp hg=>?_
 obtain⟨m,hm⟩:=cX hg;have he:=Go.Proofs.enters_of (P:=Tryz.prog) Tryz.func50 (by kernel_rfl) rfl;have hc:=Any.strings_Split Tryz.lays146 (by kernel_rfl) ⟨s.toArray⟩ ⟨p.toArray⟩ m w hl hm hp;unfold CZ;rw[he]
 have hlen:Lib.count s p+1=(Lib.split s p).length:=by
  have:=Lib.splitB_all ⟨p.toArray⟩ hp 0 (Lib.count s p) ⟨s.toArray⟩ rfl;rw[← this,← List.length_map (f:=Value.string),YY,List.length_map]
 refine hc.mono fun e w' ⟨h1,h2⟩=>⟨?_,?_⟩
 ·rw[h1];show Ending.returned (.slice _ (Lib.count s p+1) (Lib.count s p+1))=_;rw[hlen]
 ·rw[h2,← YY];rfl
end Go.Proofs.YteaicgcfpcklkaaGreatDoor
namespace Go.Proofs
open Go.Shelf
def Tryz.laysM246_ren:Go.Shelf.Ren:=⟨fun|246=>111|283=>159|284=>160|285=>161|286=>162|129=>189|317=>188|318=>190|319=>191|320=>192|337=>210|338=>211|n=>n,fun|2=>2|3=>3|9=>9|4=>4|171=>205|0=>0|53=>56|37=>22|5=>5|173=>208|212=>231|51=>210|20=>20|213=>232|46=>88|232=>255|233=>256|n=>n,fun|17=>1|18=>6|19=>7|n=>n⟩
theorem Tryz.laysM246:Go.Proofs.LaysM.n246 Tryz.prog Tryz.laysM246_ren:={
 mixed:=by kernel_rfl
 f129:=Tryz.func189.trans (congrArg some (by kernel_rfl))
 f246:=Tryz.func111.trans (congrArg some (by kernel_rfl))
 f283:=Tryz.func159.trans (congrArg some (by kernel_rfl))
 f284:=Tryz.func160.trans (congrArg some (by kernel_rfl))
 f285:=Tryz.func161.trans (congrArg some (by kernel_rfl))
 f286:=Tryz.func162.trans (congrArg some (by kernel_rfl))
 f317:=Tryz.func188.trans (congrArg some (by kernel_rfl))
 f318:=Tryz.func190.trans (congrArg some (by kernel_rfl))
 f319:=Tryz.func191.trans (congrArg some (by kernel_rfl))
 f320:=Tryz.func192.trans (congrArg some (by kernel_rfl))
 f337:=Tryz.func210.trans (congrArg some (by kernel_rfl))
 f338:=Tryz.func211.trans (congrArg some (by kernel_rfl))
 t0:=Tryz.underlying0
 a0:=Tryz.isAgg0
 z0:=Tryz.sizeOf0
 v0:=Tryz.zeroValue0
 t2:=Tryz.underlying2
 a2:=Tryz.isAgg2
 z2:=Tryz.sizeOf2
 v2:=Tryz.zeroValue2
 t3:=Tryz.underlying3
 a3:=Tryz.isAgg3
 z3:=Tryz.sizeOf3
 v3:=Tryz.zeroValue3
 t4:=Tryz.underlying4
 a4:=Tryz.isAgg4
 z4:=Tryz.sizeOf4
 v4:=Tryz.zeroValue4
 t5:=Tryz.underlying5
 a5:=Tryz.isAgg5
 z5:=Tryz.sizeOf5
 v5:=Tryz.zeroValue5
 t9:=Tryz.underlying9
 a9:=Tryz.isAgg9
 z9:=Tryz.sizeOf9
 v9:=Tryz.zeroValue9
 t20:=Tryz.underlying20
 a20:=Tryz.isAgg20
 z20:=Tryz.sizeOf20
 v20:=Tryz.zeroValue20
 t37:=Tryz.underlying22
 a37:=Tryz.isAgg22
 z37:=Tryz.sizeOf22
 v37:=Tryz.zeroValue22
 t46:=Tryz.underlying88
 a46:=Tryz.isAgg88
 z46:=Tryz.sizeOf88
 v46:=Tryz.zeroValue88
 t51:=Tryz.underlying210
 a51:=Tryz.isAgg210
 z51:=Tryz.sizeOf210
 v51:=Tryz.zeroValue210
 t53:=Tryz.underlying56
 a53:=Tryz.isAgg56
 z53:=Tryz.sizeOf56
 v53:=Tryz.zeroValue56
 t171:=Tryz.underlying205
 a171:=Tryz.isAgg205
 z171:=Tryz.sizeOf205
 v171:=Tryz.zeroValue205
 t173:=Tryz.underlying208
 a173:=Tryz.isAgg208
 z173:=Tryz.sizeOf208
 v173:=Tryz.zeroValue208
 t212:=Tryz.underlying231
 a212:=Tryz.isAgg231
 z212:=Tryz.sizeOf231
 v212:=Tryz.zeroValue231
 t213:=Tryz.underlying232
 a213:=Tryz.isAgg232
 z213:=Tryz.sizeOf232
 t232:=Tryz.underlying255
 a232:=Tryz.isAgg255
 z232:=Tryz.sizeOf255
 v232:=Tryz.zeroValue255
 t233:=Tryz.underlying256
 a233:=Tryz.isAgg256
 z233:=Tryz.sizeOf256
 v233:=Tryz.zeroValue256
 g17:=by kernel_rfl
 g18:=by kernel_rfl
 g19:=by kernel_rfl
 i0:=by kernel_rfl
 i2:=by kernel_rfl
 i3:=by kernel_rfl
 i4:=by kernel_rfl
 i5:=by kernel_rfl
 i9:=by kernel_rfl
 i20:=by kernel_rfl
 i37:=by kernel_rfl
 i46:=by kernel_rfl
 i51:=by kernel_rfl
 i53:=by kernel_rfl
 i171:=by kernel_rfl
 i173:=by kernel_rfl
 i212:=by kernel_rfl
 i232:=by kernel_rfl
 i233:=by kernel_rfl
 m17:=by kernel_rfl
 m18:=by kernel_rfl
 m19:=by kernel_rfl }
end Go.Proofs
namespace Go.Proofs.YteaicgcfpcklkaaGreatDoor
open Go Go.RowKit
theorem cF(w:World)(k:Nat)(os:Array Obj):AR (fun _=>False) w (Go.Sort.grow (w.drewN k) os) where
 os:=rfl
 tape:=rfl
 output:=rfl
 size:=by
  show w.heap.size<=(w.heap++os).size;simp
 block:=fun b hb _=>by
  show (w.heap++os)[b]? = w.heap[b]?
  rw[Array.getElem?_append_left hb]
theorem ADy:AQ Tryz.prog 111 Nl:=by
 refine nJ fun n w h0 h1 hg=>?_
 have he:=Go.Proofs.enters_of (P:=Tryz.prog) Tryz.func111 (by kernel_rfl) rfl
 have hc:=Any.internal_strconv_FormatInt_10 Tryz.laysM246 n h0 h1 w (by
  unfold Lib.TabIs World.var?;rw[Tryz.laysM246.m17];unfold GT iJ at hg;obtain⟨_,cs,T,fz,hh,hcs⟩:=hg _ (List.mem_cons_self);simp only at hh hcs;subst hcs;show Option.bind (some 1) _=_;simp only[obS,hh];rw[Lib.pow10Tab,List.map_map];rfl)
 unfold CZ;rw[he];refine hc.mono fun e w' ⟨h2,k,os,h3⟩=>⟨h2,?_⟩
 subst h3;exact cF w k os
end Go.Proofs.YteaicgcfpcklkaaGreatDoor
namespace Go.Proofs
open Go.Shelf
def Tryz.lays156_ren:Go.Shelf.Ren:=⟨fun|156=>99|165=>148|166=>18|169=>21|240=>40|241=>185|276=>71|277=>209|n=>n,fun|31=>24|9=>9|3=>3|4=>4|0=>0|20=>20|72=>48|76=>51|70=>46|37=>22|75=>50|127=>87|164=>123|5=>5|80=>45|n=>n,fun|n=>n⟩
theorem Tryz.lays156:Go.Proofs.Lays.n156 Tryz.prog Tryz.lays156_ren:={
 mixed:=by kernel_rfl
 f156:=Tryz.func99.trans (congrArg some (by kernel_rfl))
 f165:=Tryz.func148.trans (congrArg some (by kernel_rfl))
 f166:=Tryz.func18.trans (congrArg some (by kernel_rfl))
 f169:=Tryz.func21.trans (congrArg some (by kernel_rfl))
 f240:=Tryz.func40.trans (congrArg some (by kernel_rfl))
 f241:=Tryz.func185.trans (congrArg some (by kernel_rfl))
 f276:=Tryz.func71.trans (congrArg some (by kernel_rfl))
 f277:=Tryz.func209.trans (congrArg some (by kernel_rfl))
 t0:=Tryz.underlying0
 a0:=Tryz.isAgg0
 z0:=Tryz.sizeOf0
 v0:=Tryz.zeroValue0
 t3:=Tryz.underlying3
 a3:=Tryz.isAgg3
 z3:=Tryz.sizeOf3
 v3:=Tryz.zeroValue3
 t4:=Tryz.underlying4
 a4:=Tryz.isAgg4
 z4:=Tryz.sizeOf4
 v4:=Tryz.zeroValue4
 t9:=Tryz.underlying9
 a9:=Tryz.isAgg9
 z9:=Tryz.sizeOf9
 v9:=Tryz.zeroValue9
 t20:=Tryz.underlying20
 a20:=Tryz.isAgg20
 z20:=Tryz.sizeOf20
 v20:=Tryz.zeroValue20
 t31:=Tryz.underlying24
 a31:=Tryz.isAgg24
 z31:=Tryz.sizeOf24
 v31:=Tryz.zeroValue24
 t37:=Tryz.underlying22
 a37:=Tryz.isAgg22
 z37:=Tryz.sizeOf22
 v37:=Tryz.zeroValue22
 t70:=Tryz.underlying46
 a70:=Tryz.isAgg46
 z70:=Tryz.sizeOf46
 v70:=Tryz.zeroValue46
 t72:=Tryz.underlying48
 a72:=Tryz.isAgg48
 z72:=Tryz.sizeOf48
 v72:=Tryz.zeroValue48
 t75:=Tryz.underlying50
 a75:=Tryz.isAgg50
 z75:=Tryz.sizeOf50
 v75:=Tryz.zeroValue50
 t76:=Tryz.underlying51
 a76:=Tryz.isAgg51
 z76:=Tryz.sizeOf51
 v76:=Tryz.zeroValue51
 t127:=Tryz.underlying87
 a127:=Tryz.isAgg87
 z127:=Tryz.sizeOf87
 v127:=Tryz.zeroValue87
 t164:=Tryz.underlying123
 a164:=Tryz.isAgg123
 z164:=Tryz.sizeOf123
 v164:=Tryz.zeroValue123 }
end Go.Proofs
namespace Go.Proofs.YteaicgcfpcklkaaGreatDoor
open Go Go.RowKit
theorem jw:Builder.Extra Tryz.prog Tryz.lays156_ren where
 sizeBuilder:=by kernel_rfl
 liesBuilder:=by kernel_rfl
 t5:=Tryz.underlying5
 a5:=Tryz.isAgg5
 z5:=Tryz.sizeOf5
 v5:=Tryz.zeroValue5
 infoByte:=by kernel_rfl
 cellsByte:=by kernel_rfl
 sizeByte:=by kernel_rfl
 neB5:=by decide
theorem Zw{args:List AV}(h:(Oi args).ok=true):∃ sz l p,l.length<=1048576∧(Lib.join l p).length<=140737488355328∧args=[.sl sz (List.map AV.str l),.str p]∧(Oi args).r = .str (Lib.join l p):=by
 unfold Oi at h;split at h
 ·rename_i sz els p;split at h
  ·rename_i l hl;have h:=Bool.and_eq_true_iff.1 h;refine⟨sz,l,p,of_decide_eq_true h.1,of_decide_eq_true h.2,by rw[bz hl],?_⟩;simp only[Oi,hl]
  ·cases h
 ·cases h
theorem zi:AQ Tryz.prog 99 IY:=by
 refine⟨fun _=>rfl,fun F g0 w args vargs hsh hsz hfr hok=>⟨fun _=>?_,?_⟩⟩
 ·obtain⟨sz,l,p,_,_,rfl,hr⟩:=Zw hok;show Do (Oi _).r=true;rw[hr];rfl
 ·obtain⟨sz,l,p,hl,hlen,rfl,hr⟩:=Zw hok;have h0:=FD hfr (i:=0) (by simp);have h1:=FD hfr (i:=1) (by simp);rw[Kz hsz];generalize vargs.getD 0 undef=x at h0;generalize vargs.getD 1 undef=y at h1;have h0:VR _ w x (.sl sz (List.map AV.str l)):=h0;have h1:VR _ w y (.str p):=h1;cases h1
  have done:∀ e w',e = .returned (.string ⟨(Lib.join l p).toArray⟩)->AR (fun _=>False) w w'->∃ v g ob κ,e=Ending.returned v∧bD F g0 [.sl sz (List.map AV.str l),.str p] IY.modes w v w' (IY.F [.sl sz (List.map AV.str l),.str p]).r (IY.F [.sl sz (List.map AV.str l),.str p]).outs g ob κ:=by
   intro e w' he hs;refine⟨_,g0,[],id,he,?_⟩;have hr':(IY.F [.sl sz (List.map AV.str l),.str p]).r = .str (Lib.join l p):=hr;rw[hr'];exact Jj hs .str (fun i hi=>absurd hi.2 Bool.false_ne_true) (AEP rfl)
  cases h0 with
  | @sl a n cap _ _ b off rd hn hcap hsz1 ha hc hw hv=>
   have hn':n=l.length:=by simpa using hn
   subst hn';have he:=Go.Proofs.enters_of (P:=Tryz.prog) Tryz.func99 (by kernel_rfl) rfl;unfold CZ;rw[he];cases l with
   | nil=>
    refine (Any.strings_Join_none Tryz.lays156 jw a cap ⟨p.toArray⟩ w).mono fun e w' ⟨h2,h3⟩=>?_
    subst h3;exact done e w' h2 (AR.refl _ _)
   | cons s r=>
    obtain⟨rfl,hs⟩:=ha (by simp)
    have one:∀ i,i<(s::r).length->(List.map AV.str (s::r)).getD i .any = .str ((s::r).getD i []):=fun i hi=>by
     rw[gdE,List.getElem?_map,gdE,geE hi];rfl
    have hsz2:sz=1:=by
     have:=(hc 0 (by simp)).1;rw[one 0 (by simp)] at this;exact this.symm
    subst hsz2
    have cell:∀ i,i<(s::r).length->w.cell? ⟨b,off+i,none⟩=some (.string ⟨((s::r).getD i []).toArray⟩):=fun i hi=>by
     have h2:=hw i 0 (by simpa using hi) (by omega);have h3:=hv i 0 (by simpa using hi) (by omega);rw[one i hi] at h3;rw[Nat.mul_one,Nat.add_zero] at h2;have h3:VR _ w (rd i 0) (.str ((s::r).getD i [])):=h3;generalize rd i 0=u at h2 h3;cases h3
     exact h2
    have hb:b<w.heap.size:=World.block_lt_of_cell? w _ (cell 0 (by simp))
    have hd:((s::r).map fun l=>(⟨l.toArray⟩:ByteArray)).map (·.data.toList)=s::r:=by
     rw[List.map_map];have:((fun x:ByteArray=>x.data.toList) ∘ fun l:List UInt8=>(⟨l.toArray⟩:ByteArray))=id:=by funext l;simp
     rw[this,List.map_id]
    have hc2:=Any.strings_Join Tryz.lays156 jw b off cap ((s::r).map fun l=>(⟨l.toArray⟩:ByteArray)) ⟨p.toArray⟩ w (fun j x hx=>by
     rw[List.getElem?_map] at hx;cases hj:(s::r)[j]? with
     | none=>rw[hj] at hx;cases hx
     | some t=>
      rw[hj] at hx;cases hx
      have hjl:j<(s::r).length:=by
       rcases Nat.lt_or_ge j (s::r).length with h' | h'
       ·exact h'
       ·rw[List.getElem?_eq_none h'] at hj;cases hj
      rw[cell j hjl,gdE,hj];rfl) hb (by rw[List.length_map];omega) (by rw[List.length_map];exact hcap) (by rw[hd];simpa using hlen)
    rw[hd,List.length_map] at hc2;refine hc2.mono fun e w' ⟨h2,h3⟩=>done e w' ?_ ⟨h3.os,h3.tape,h3.output,h3.size,fun b hb _=>h3.block b hb⟩
    rw[h2]
end Go.Proofs.YteaicgcfpcklkaaGreatDoor
namespace Go.Proofs
open Go.Shelf
def Tryz.lMaxI_ren:Go.Shelf.Ren:=⟨fun|37=>140|n=>n,fun|22=>73|23=>2|3=>3|4=>4|9=>9|20=>20|0=>0|n=>n,fun|n=>n⟩
theorem Tryz.lMaxI:Go.Proofs.SlLaysN.n37 Tryz.prog Tryz.lMaxI_ren:={
 mixed:=by kernel_rfl
 f37:=⟨Tryz.f140.name,by decide,Tryz.func140.trans (congrArg some (by kernel_rfl))⟩
 t0:=Tryz.underlying0
 a0:=Tryz.isAgg0
 z0:=Tryz.sizeOf0
 v0:=Tryz.zeroValue0
 t3:=Tryz.underlying3
 a3:=Tryz.isAgg3
 z3:=Tryz.sizeOf3
 v3:=Tryz.zeroValue3
 t4:=Tryz.underlying4
 a4:=Tryz.isAgg4
 z4:=Tryz.sizeOf4
 v4:=Tryz.zeroValue4
 t9:=Tryz.underlying9
 a9:=Tryz.isAgg9
 z9:=Tryz.sizeOf9
 v9:=Tryz.zeroValue9
 t20:=Tryz.underlying20
 a20:=Tryz.isAgg20
 z20:=Tryz.sizeOf20
 v20:=Tryz.zeroValue20
 t22:=Tryz.underlying73
 a22:=Tryz.isAgg73
 z22:=Tryz.sizeOf73
 v22:=Tryz.zeroValue73
 t23:=Tryz.underlying2
 a23:=Tryz.isAgg2
 z23:=Tryz.sizeOf2
 v23:=Tryz.zeroValue2 }
def Tryz.lMinI_ren:Go.Shelf.Ren:=⟨fun|39=>141|n=>n,fun|22=>73|23=>2|3=>3|4=>4|9=>9|20=>20|0=>0|n=>n,fun|n=>n⟩
theorem Tryz.lMinI:Go.Proofs.SlLaysN.n39 Tryz.prog Tryz.lMinI_ren:={
 mixed:=by kernel_rfl
 f39:=⟨Tryz.f141.name,by decide,Tryz.func141.trans (congrArg some (by kernel_rfl))⟩
 t0:=Tryz.underlying0
 a0:=Tryz.isAgg0
 z0:=Tryz.sizeOf0
 v0:=Tryz.zeroValue0
 t3:=Tryz.underlying3
 a3:=Tryz.isAgg3
 z3:=Tryz.sizeOf3
 v3:=Tryz.zeroValue3
 t4:=Tryz.underlying4
 a4:=Tryz.isAgg4
 z4:=Tryz.sizeOf4
 v4:=Tryz.zeroValue4
 t9:=Tryz.underlying9
 a9:=Tryz.isAgg9
 z9:=Tryz.sizeOf9
 v9:=Tryz.zeroValue9
 t20:=Tryz.underlying20
 a20:=Tryz.isAgg20
 z20:=Tryz.sizeOf20
 v20:=Tryz.zeroValue20
 t22:=Tryz.underlying73
 a22:=Tryz.isAgg73
 z22:=Tryz.sizeOf73
 v22:=Tryz.zeroValue73
 t23:=Tryz.underlying2
 a23:=Tryz.isAgg2
 z23:=Tryz.sizeOf2
 v23:=Tryz.zeroValue2 }
end Go.Proofs
namespace Go.Proofs.YteaicgcfpcklkaaGreatDoor
open Go Go.RowKit
theorem jF{f:FuncId}{c:Ak}{op:List Int->Int}(hF:c.F=xF op)(hm:c.modes=[.bor])(he:∀ args w,(callFunc f args).run Tryz.prog w = .ok (.enter f args) w)
  (hc:∀ (b off n k:Nat) (zs:List Int) (w:World),0<n->n<=zs.length->n<=9223372036854775807->(∀ j,j<zs.length->w.cell? ⟨b,off+j,none⟩=some (.int .i64 (zs.getD j 0))) ->
   Calls Tryz.prog f #[.slice (some ⟨b,off,none⟩) n k] w fun e w'=>e = .returned (.int .i64 (op (zs.take n)))∧w'=w):AQ Tryz.prog f c:=by
 refine⟨fun _=>by rw[hm];rfl,fun F g0 w args vargs hsh hsz hfr hok=>⟨fun _=>?_,?_⟩⟩
 ·rw[hF] at hok ⊢;obtain⟨sz,l,_,_,rfl,hr⟩:=ox hok;rw[hr];rfl
 ·rw[hF] at hok ⊢;obtain⟨sz,l,hp,hl,rfl,hr⟩:=ox hok;rw[hr];have h0:=FD hfr (i:=0) (by simp);rw[MP hsz];generalize vargs.getD 0 undef=x at h0;have h0:VR _ w x (.sl sz (List.map (AV.int .i64) l)):=h0;cases h0 with
  | @sl a n cap _ _ b off rd hn hcap hsz1 ha hcc hw hv=>
   have hn':n=l.length:=by simpa using hn
   subst hn';obtain⟨rfl,hs⟩:=ha (by simpa using hp)
   have one:∀ i,i<l.length->(List.map (AV.int .i64) l).getD i .any = .int .i64 (l.getD i 0):=fun i hi=>by
    rw[gdE,List.getElem?_map,gdE,geE hi];rfl
   have hsz2:sz=1:=by
    have:=(hcc 0 (by simpa using hp)).1;rw[one 0 hp] at this;exact this.symm
   subst hsz2;unfold CZ;rw[he]
   have h1:=hc b off l.length cap l w hp (Nat.le_refl _) hl (fun i hi=>by
    have h2:=hw i 0 (by simpa using hi) (by omega);have h3:=hv i 0 (by simpa using hi) (by omega);rw[one i hi] at h3;rw[Nat.mul_one,Nat.add_zero] at h2;have h3:VR _ w (rd i 0) (.int .i64 (l.getD i 0)):=h3;generalize rd i 0=u at h2 h3;cases h3
    exact h2)
   rw[List.take_length] at h1;refine h1.mono fun e w' ⟨h2,h3⟩=>?_
   subst h3;exact⟨_,g0,[],id,h2,Jj (AR.refl _ _) .int (fun i hi=>absurd hi.2 Bool.false_ne_true) (vI hm)⟩
theorem zh:AQ Tryz.prog 140 Nk :=
 jF (op:=Lib.maxOf) rfl rfl (Go.Proofs.enters_of (P:=Tryz.prog) Tryz.func140 (by kernel_rfl) rfl) fun b off n k zs w=>AnyG.slices_Max_int Tryz.lMaxI b off n k zs w
theorem zg:AQ Tryz.prog 141 Kt :=
 jF (op:=Lib.minOf) rfl rfl (Go.Proofs.enters_of (P:=Tryz.prog) Tryz.func141 (by kernel_rfl) rfl) fun b off n k zs w=>AnyG.slices_Min_int Tryz.lMinI b off n k zs w
end Go.Proofs.YteaicgcfpcklkaaGreatDoor
namespace Go.Proofs
open Go.Shelf
def Tryz.lays101_ren:Go.Shelf.Ren:=⟨fun|101=>84|208=>123|206=>127|n=>n,fun|9=>9|4=>4|3=>3|n=>n,fun|n=>n⟩
theorem Tryz.lays101:Go.Proofs.Lays.n101 Tryz.prog Tryz.lays101_ren:={
 mixed:=by kernel_rfl
 f101:=Tryz.func84.trans (congrArg some (by kernel_rfl))
 f206:=Tryz.func127.trans (congrArg some (by kernel_rfl))
 f208:=Tryz.func123.trans (congrArg some (by kernel_rfl))
 t3:=Tryz.underlying3
 a3:=Tryz.isAgg3
 z3:=Tryz.sizeOf3
 v3:=Tryz.zeroValue3
 t4:=Tryz.underlying4
 a4:=Tryz.isAgg4
 z4:=Tryz.sizeOf4
 v4:=Tryz.zeroValue4
 t9:=Tryz.underlying9
 a9:=Tryz.isAgg9
 z9:=Tryz.sizeOf9
 v9:=Tryz.zeroValue9 }
def Tryz.laysC174_ren:Go.Shelf.Ren:=⟨fun|174=>85|247=>124|245=>125|287=>169|279=>170|280=>171|281=>172|282=>173|321=>194|322=>195|316=>196|171=>198|205=>197|243=>212|246=>111|283=>159|284=>160|285=>161|286=>162|129=>189|317=>188|318=>190|319=>191|320=>192|337=>210|338=>211|n=>n,fun|9=>9|3=>3|2=>2|75=>50|85=>137|4=>4|167=>216|5=>5|53=>56|175=>217|46=>88|168=>219|37=>22|0=>0|210=>237|21=>21|127=>87|145=>252|143=>250|171=>205|173=>208|212=>231|51=>210|20=>20|213=>232|232=>255|233=>256|80=>45|n=>n,fun|15=>2|16=>3|17=>1|18=>6|19=>7|n=>n⟩
theorem Tryz.laysC174:Go.Proofs.LaysC.n174 Tryz.prog Tryz.laysC174_ren:={
 mixed:=by kernel_rfl
 f129:=Tryz.func189.trans (congrArg some (by kernel_rfl))
 f171:=Tryz.func198.trans (congrArg some (by kernel_rfl))
 f174:=Tryz.func85.trans (congrArg some (by kernel_rfl))
 f205:=Tryz.func197.trans (congrArg some (by kernel_rfl))
 f243:=Tryz.func212.trans (congrArg some (by kernel_rfl))
 f245:=Tryz.func125.trans (congrArg some (by kernel_rfl))
 f246:=Tryz.func111.trans (congrArg some (by kernel_rfl))
 f247:=Tryz.func124.trans (congrArg some (by kernel_rfl))
 f279:=Tryz.func170.trans (congrArg some (by kernel_rfl))
 f280:=Tryz.func171.trans (congrArg some (by kernel_rfl))
 f281:=Tryz.func172.trans (congrArg some (by kernel_rfl))
 f282:=Tryz.func173.trans (congrArg some (by kernel_rfl))
 f283:=Tryz.func159.trans (congrArg some (by kernel_rfl))
 f284:=Tryz.func160.trans (congrArg some (by kernel_rfl))
 f285:=Tryz.func161.trans (congrArg some (by kernel_rfl))
 f286:=Tryz.func162.trans (congrArg some (by kernel_rfl))
 f287:=Tryz.func169.trans (congrArg some (by kernel_rfl))
 f316:=Tryz.func196.trans (congrArg some (by kernel_rfl))
 f317:=Tryz.func188.trans (congrArg some (by kernel_rfl))
 f318:=Tryz.func190.trans (congrArg some (by kernel_rfl))
 f319:=Tryz.func191.trans (congrArg some (by kernel_rfl))
 f320:=Tryz.func192.trans (congrArg some (by kernel_rfl))
 f321:=Tryz.func194.trans (congrArg some (by kernel_rfl))
 f322:=Tryz.func195.trans (congrArg some (by kernel_rfl))
 f337:=Tryz.func210.trans (congrArg some (by kernel_rfl))
 f338:=Tryz.func211.trans (congrArg some (by kernel_rfl))
 t0:=Tryz.underlying0
 a0:=Tryz.isAgg0
 z0:=Tryz.sizeOf0
 v0:=Tryz.zeroValue0
 t2:=Tryz.underlying2
 a2:=Tryz.isAgg2
 z2:=Tryz.sizeOf2
 v2:=Tryz.zeroValue2
 t3:=Tryz.underlying3
 a3:=Tryz.isAgg3
 z3:=Tryz.sizeOf3
 v3:=Tryz.zeroValue3
 t4:=Tryz.underlying4
 a4:=Tryz.isAgg4
 z4:=Tryz.sizeOf4
 v4:=Tryz.zeroValue4
 t5:=Tryz.underlying5
 a5:=Tryz.isAgg5
 z5:=Tryz.sizeOf5
 v5:=Tryz.zeroValue5
 t9:=Tryz.underlying9
 a9:=Tryz.isAgg9
 z9:=Tryz.sizeOf9
 v9:=Tryz.zeroValue9
 t20:=Tryz.underlying20
 a20:=Tryz.isAgg20
 z20:=Tryz.sizeOf20
 v20:=Tryz.zeroValue20
 t21:=Tryz.underlying21
 a21:=Tryz.isAgg21
 z21:=Tryz.sizeOf21
 v21:=Tryz.zeroValue21
 t37:=Tryz.underlying22
 a37:=Tryz.isAgg22
 z37:=Tryz.sizeOf22
 v37:=Tryz.zeroValue22
 t46:=Tryz.underlying88
 a46:=Tryz.isAgg88
 z46:=Tryz.sizeOf88
 v46:=Tryz.zeroValue88
 t51:=Tryz.underlying210
 a51:=Tryz.isAgg210
 z51:=Tryz.sizeOf210
 v51:=Tryz.zeroValue210
 t53:=Tryz.underlying56
 a53:=Tryz.isAgg56
 z53:=Tryz.sizeOf56
 v53:=Tryz.zeroValue56
 t75:=Tryz.underlying50
 a75:=Tryz.isAgg50
 z75:=Tryz.sizeOf50
 v75:=Tryz.zeroValue50
 t85:=Tryz.underlying137
 a85:=Tryz.isAgg137
 z85:=Tryz.sizeOf137
 v85:=Tryz.zeroValue137
 t127:=Tryz.underlying87
 a127:=Tryz.isAgg87
 z127:=Tryz.sizeOf87
 v127:=Tryz.zeroValue87
 t143:=Tryz.underlying250
 a143:=Tryz.isAgg250
 z143:=Tryz.sizeOf250
 v143:=Tryz.zeroValue250
 t145:=Tryz.underlying252
 a145:=Tryz.isAgg252
 z145:=Tryz.sizeOf252
 v145:=Tryz.zeroValue252
 t167:=Tryz.underlying216
 a167:=Tryz.isAgg216
 z167:=Tryz.sizeOf216
 v167:=Tryz.zeroValue216
 t168:=Tryz.underlying219
 a168:=Tryz.isAgg219
 z168:=Tryz.sizeOf219
 v168:=Tryz.zeroValue219
 t171:=Tryz.underlying205
 a171:=Tryz.isAgg205
 z171:=Tryz.sizeOf205
 v171:=Tryz.zeroValue205
 t173:=Tryz.underlying208
 a173:=Tryz.isAgg208
 z173:=Tryz.sizeOf208
 v173:=Tryz.zeroValue208
 t175:=Tryz.underlying217
 a175:=Tryz.isAgg217
 z175:=Tryz.sizeOf217
 v175:=Tryz.zeroValue217
 t210:=Tryz.underlying237
 a210:=Tryz.isAgg237
 z210:=Tryz.sizeOf237
 v210:=Tryz.zeroValue237
 t212:=Tryz.underlying231
 a212:=Tryz.isAgg231
 z212:=Tryz.sizeOf231
 v212:=Tryz.zeroValue231
 t213:=Tryz.underlying232
 a213:=Tryz.isAgg232
 z213:=Tryz.sizeOf232
 t232:=Tryz.underlying255
 a232:=Tryz.isAgg255
 z232:=Tryz.sizeOf255
 v232:=Tryz.zeroValue255
 t233:=Tryz.underlying256
 a233:=Tryz.isAgg256
 z233:=Tryz.sizeOf256
 v233:=Tryz.zeroValue256
 g15:=by kernel_rfl
 g16:=by kernel_rfl
 g17:=by kernel_rfl
 g18:=by kernel_rfl
 g19:=by kernel_rfl
 t80:=Tryz.underlying45
 a80:=Tryz.isAgg45
 z80:=Tryz.sizeOf45
 v80:=Tryz.zeroValue45
 i0:=by kernel_rfl
 i2:=by kernel_rfl
 i3:=by kernel_rfl
 i4:=by kernel_rfl
 i5:=by kernel_rfl
 i9:=by kernel_rfl
 i20:=by kernel_rfl
 i21:=by kernel_rfl
 i37:=by kernel_rfl
 i46:=by kernel_rfl
 i51:=by kernel_rfl
 i53:=by kernel_rfl
 i75:=by kernel_rfl
 i80:=by kernel_rfl
 i85:=by kernel_rfl
 i127:=by kernel_rfl
 i143:=by kernel_rfl
 i145:=by kernel_rfl
 i167:=by kernel_rfl
 i168:=by kernel_rfl
 i171:=by kernel_rfl
 i173:=by kernel_rfl
 i175:=by kernel_rfl
 i210:=by kernel_rfl
 i212:=by kernel_rfl
 i232:=by kernel_rfl
 i233:=by kernel_rfl
 m15:=by kernel_rfl
 m16:=by kernel_rfl
 m17:=by kernel_rfl
 m18:=by kernel_rfl
 m19:=by kernel_rfl
 c0:=by kernel_rfl
 c2:=by kernel_rfl
 c3:=by kernel_rfl
 c4:=by kernel_rfl
 c5:=by kernel_rfl
 c9:=by kernel_rfl
 c20:=by kernel_rfl
 c21:=by kernel_rfl
 c37:=by kernel_rfl
 c46:=by kernel_rfl
 c51:=by kernel_rfl
 c53:=by kernel_rfl
 c75:=by kernel_rfl
 c80:=by kernel_rfl
 c85:=by kernel_rfl
 c127:=by kernel_rfl
 c143:=by kernel_rfl
 c145:=by kernel_rfl
 c167:=by kernel_rfl
 c168:=by kernel_rfl
 c171:=by kernel_rfl
 c173:=by kernel_rfl
 c175:=by kernel_rfl
 c210:=by kernel_rfl
 c212:=by kernel_rfl
 c213:=by kernel_rfl
 c232:=by kernel_rfl
 c233:=by kernel_rfl }
end Go.Proofs
namespace Go.Proofs.YteaicgcfpcklkaaGreatDoor
open Go Go.RowKit
theorem QL{w w':World}(h:Below w.heap.size w w'):AR (fun _=>False) w w':=⟨h.os,h.tape,h.output,h.size,fun b hb _=>h.block b hb⟩
theorem gL{w:World}(h:GT (fun _=>False) w):∃ tp p,w.cell? ⟨2,0,none⟩=some (.iface tp p):=by
 obtain⟨_,cs,T,fz,hh,tp,p,hm⟩:=h (2,fun cs=>∃ tp p,cs = #[.iface tp p]) (by
  unfold iJ
  repeat (first|exact List.mem_cons_self|apply List.mem_cons_of_mem))
 have hm':cs = #[.iface tp p]:=hm;subst hm';exact⟨tp,p,by simp only[World.cell?,hh];rfl⟩
theorem kD{w:World}(h:GT (fun _=>False) w):∃ tp p,w.cell? ⟨3,0,none⟩=some (.iface tp p):=by
 obtain⟨_,cs,T,fz,hh,tp,p,hm⟩:=h (3,fun cs=>∃ tp p,cs = #[.iface tp p]) (by
  unfold iJ
  repeat (first|exact List.mem_cons_self|apply List.mem_cons_of_mem))
 have hm':cs = #[.iface tp p]:=hm;subst hm';exact⟨tp,p,by simp only[World.cell?,hh];rfl⟩
theorem bt(l:List UInt8):(⟨l.toArray⟩:ByteArray).toList=l:=by
 rw[ByteArray.toList_eq]
def AAe(s:List UInt8)(w:World)(e:Ending)(w':World):Prop :=
 AR (fun _=>False) w w'∧((∃ v,Lib.parseIntB 64 s = .ok v∧e = .returned (.tuple #[.int .i64 v,.nilIface]))∨((∀ v,Lib.parseIntB 64 s ≠ .ok v)∧∃ n tp p,e = .returned (.tuple #[.int .i64 n,.iface tp (.pointer (some p))])))
theorem qU(s:List UInt8)(w:World)(hl:s.length<=281474976710656)(hg:GT (fun _=>False) w):
  Calls Tryz.prog 85 #[.string ⟨s.toArray⟩,.int .i64 10,.int .i64 64] w (AAe s w):=by
 rcases hp:Lib.parseIntB 64 s with v|_|_
 ·refine (Any.strconv_ParseInt_10_at64_ok Tryz.laysC174 ⟨s.toArray⟩ (show s.length<=_ by omega) v hp w).mono fun e w' ⟨h1,h2⟩=>⟨?_,.inl ⟨v,hp,h1⟩⟩
  rcases h2 with rfl|⟨t,rfl⟩
  ·exact AR.refl _ _
  ·exact QL (Lib.bytesWorld_below _ _ _)
 ·obtain⟨tp,p,hv⟩:=gL hg;refine (Any.strconv_ParseInt_10_at64_syntax Tryz.laysC174 ⟨s.toArray⟩ hl hp _ w hv (.inr ⟨tp,p,rfl⟩)).mono fun e w' ⟨N,h1,_,_,h2⟩=>⟨QL h2,.inr ⟨(fun v c=>by rw[hp] at c;cases c),_,_,_,h1⟩⟩
 ·obtain⟨tp,p,hv⟩:=kD hg;refine (Any.strconv_ParseInt_10_at64_range Tryz.laysC174 ⟨s.toArray⟩ hl hp _ w hv (.inr ⟨tp,p,rfl⟩)).mono fun e w' ⟨N,h1,_,_,h2⟩=>⟨QL h2,.inr ⟨(fun v c=>by rw[hp] at c;cases c),_,_,_,h1⟩⟩
def vM(s:List UInt8)(w:World)(e:Ending)(w':World):Prop:=AR (fun _=>False) w w'∧e = .returned (.tuple #[.int .i64 (CD s).1,.bool (CD s).2])
theorem tn(n:Int)(w:World)(h0:-9223372036854775808<=n)(h1:n<=9223372036854775807)(hg:GT (fun _=>False) w):
  Calls Tryz.prog 111 #[.int .i64 n,.int .i64 10] w fun e w'=>e = .returned (.string ⟨(Lib.itoa n).toArray⟩)∧AR (fun _=>False) w w':=by
 have hc:=Any.internal_strconv_FormatInt_10 Tryz.laysM246 n h0 h1 w (by
  unfold Lib.TabIs World.var?;rw[Tryz.laysM246.m17];unfold GT iJ at hg;obtain⟨_,cs,T,fz,hh,hcs⟩:=hg _ (List.mem_cons_self);simp only at hh hcs;subst hcs;show Option.bind (some 1) _=_;simp only[obS,hh];rw[Lib.pow10Tab,List.map_map];rfl)
 refine hc.mono fun e w' ⟨h2,k,os,h3⟩=>⟨h2,?_⟩
 subst h3;exact cF w k os
def eq(n:Int)(w:World)(e:Ending)(w':World):Prop:=e = .returned (.string ⟨(Lib.itoa n).toArray⟩)∧AR (fun _=>False) w w'
set_option maxRecDepth 100000 in
theorem nN(n:Int)(w:World)(h0:-9223372036854775808<=n)(h1:n<=9223372036854775807)(hg:GT (fun _=>False) w):
  Calls Tryz.prog 70 #[.int .i64 n,.int .i64 10] w (eq n w):=by
 have hF:=tn n w h0 h1 hg;obtain⟨y,hy⟩:∃ y:ByteArray,y=⟨(Lib.itoa n).toArray⟩:=⟨_,rfl⟩;have R:∀ w2,AR (fun _=>False) w w2->eq n w (.returned (.string y)) w2:=fun w2 h=>⟨by rw[hy],h⟩
 have HR:=Lib.hid R;rw[← hy] at hF;clear R hy hg h0 h1
 go_enter Tryz.func70,Tryz.ntmps70
 go_wp2_with (go_at_call 111;refine hF.mono ?_;rintro e w2 ⟨rfl,hs2⟩)
 go_ret
 exact HR.out _ hs2
set_option maxRecDepth 100000 in
theorem tu(n:Int)(w:World)(h0:-9223372036854775808<=n)(h1:n<=9223372036854775807)(hg:GT (fun _=>False) w):
  Calls Tryz.prog 37 #[.int .i64 n] w (eq n w):=by
 have hF:=nN n w h0 h1 hg;unfold eq at hF;obtain⟨y,hy⟩:∃ y:ByteArray,y=⟨(Lib.itoa n).toArray⟩:=⟨_,rfl⟩;have R:∀ w2,AR (fun _=>False) w w2->eq n w (.returned (.string y)) w2:=fun w2 h=>⟨by rw[hy],h⟩
 have HR:=Lib.hid R;rw[← hy] at hF;clear R hy hg h0 h1
 go_enter Tryz.func37,Tryz.ntmps37
 go_wp2_with (go_at_call 70;refine hF.mono ?_;rintro e w2 ⟨rfl,hs2⟩)
 go_ret
 exact HR.out _ hs2
theorem wm{s:List UInt8}{v:Int}(h:Lib.parseIntB 64 s = .ok v):-9223372036854775808<=v∧v<=9223372036854775807:=by
 unfold Lib.parseIntB at h;split at h
 ·cases h
 ·split at h
  ·cases h
  ·cases h
  ·rename_i u _;simp only at h;split at h
   ·cases h
   ·split at h
    ·cases h
    ·rename_i h1 h2;have h:=Lib.NumEnd.ok.inj h;subst h;simp only[Nat.reduceSub,not_and,Nat.not_le,Nat.not_lt] at h1 h2;split
     ·rename_i hn;have:=h2 hn;omega
     ·rename_i hn;have:=h1 hn;omega
set_option maxRecDepth 100000 in
theorem wZ(s:List UInt8)(w:World)(hl:s.length<=281474976710656)(hg:GT (fun _=>False) w):Calls Tryz.prog 54 #[.string ⟨s.toArray⟩] w (vM s w):=by
 obtain⟨d,hd⟩:∃ d:ByteArray,d=⟨(Lib.trimPrefix s [45]).toArray⟩:=⟨_,rfl⟩
 have hT:Calls Tryz.prog 84 #[.string ⟨s.toArray⟩,.string ⟨#[45]⟩] w fun e w'=>e = .returned (.string d)∧w'=w:=by
  rw[hd];exact Any.strings_TrimPrefix Tryz.lays101 ⟨s.toArray⟩ ⟨#[45]⟩ w
 have hsz:(Lib.trimPrefix s [45]).length=d.size:=by rw[hd];rfl
 clear hd;obtain⟨b,hb⟩:∃ b:ByteArray,b=⟨s.toArray⟩:=⟨_,rfl⟩;have hP:=qU s w hl hg;rw[← hb] at hT hP ⊢
 by_cases h1:d.size<1
 ·have hr:CD s=(0,false):=by unfold CD;rw[if_pos (.inl (by omega))]
  have R:vM s w (.returned (.tuple #[.int .i64 0,.bool false])) w:=⟨AR.refl _ _,by rw[hr]⟩;clear hr hsz hP hg hb
  go_enter Tryz.func54,Tryz.ntmps54
  go_wp2_with (go_at_call 84;refine hT.mono ?_;rintro e w' ⟨rfl,rfl⟩)
  go_ret2
  exact R
 ·by_cases h2:18<d.size
  ·have hr:CD s=(0,false):=by unfold CD;rw[if_pos (.inr (by omega))]
   have R:vM s w (.returned (.tuple #[.int .i64 0,.bool false])) w:=⟨AR.refl _ _,by rw[hr]⟩;clear hr hsz hP hg hb
   go_enter Tryz.func54,Tryz.ntmps54
   go_wp2_with (go_at_call 84;refine hT.mono ?_;rintro e w' ⟨rfl,rfl⟩)
   go_ret2
   exact R
  ·have hr1:∀ v,Lib.parseIntB 64 s = .ok v->CD s=if Lib.itoa v=s then (v,true) else (0,false):=fun v e=>by
    unfold CD;rw[if_neg (by omega),e]
   have hr2:(∀ v,Lib.parseIntB 64 s ≠ .ok v)->CD s=(0,false):=fun e=>by
    unfold CD;rw[if_neg (by omega)];rcases h:Lib.parseIntB 64 s with v|_|_
    ·exact absurd h (e v)
    ·rfl
    ·rfl
   clear hsz;have HP:=Lib.hid hP;have HG:=Lib.hid hg;clear hP hg;have HR1:=Lib.hid hr1;have HR2:=Lib.hid hr2;have HB:=Lib.hid hb;clear hr1 hr2 hb
   go_enter Tryz.func54,Tryz.ntmps54
   go_wp2_with (go_at_call 84;refine hT.mono ?_;rintro e w' ⟨rfl,rfl⟩)
   refine HP.out.mono ?_;rintro e w1 ⟨hs1,⟨v,hp,rfl⟩|⟨hp,n,tp,p,rfl⟩⟩
   ·have hv:=wm hp;have hF:=tu v w1 hv.1 hv.2 (HG.out.mono (hs1.mono fun _ _ c=>c) fun _ _ c=>c);have hr:=HR1.out v hp;have HS1:=Lib.hid hs1;obtain⟨y,hy⟩:∃ y:ByteArray,y=⟨(Lib.itoa v).toArray⟩:=⟨_,rfl⟩;unfold eq at hF;rw[← hy] at hF
    have hyb:(y.toList==b.toList)=decide (Lib.itoa v=s):=by
     have e1:y.toList=Lib.itoa v:=by rw[hy,bt]
     have e2:b.toList=s:=by rw[HB.out,bt]
     rw[e1,e2,Bool.eq_iff_iff];simp
    clear hv hs1 hp hy
    by_cases hc:Lib.itoa v=s
    ·rw[if_pos hc] at hr;have R:∀ w2,AR (fun _=>False) w1 w2->vM s w' (.returned (.tuple #[.int .i64 v,.bool true])) w2:=fun w2 h=>⟨HS1.out.trans h,by rw[hr]⟩
     have HR:=Lib.hid R;have hc1:(y.toList==b.toList)=true:=by rw[hyb,decide_eq_true hc]
     clear hr hyb R hc
     go_wp2_with (go_at_call 37;refine hF.mono ?_;rintro e w2 ⟨rfl,hs2⟩)
     go_ret2
     exact HR.out _ hs2
    ·rw[if_neg hc] at hr;have R:∀ w2,AR (fun _=>False) w1 w2->vM s w' (.returned (.tuple #[.int .i64 0,.bool false])) w2:=fun w2 h=>⟨HS1.out.trans h,by rw[hr]⟩
     have HR:=Lib.hid R;have hc1:(y.toList==b.toList)=false:=by rw[hyb,decide_eq_false hc]
     clear hr hyb R hc
     go_wp2_with (go_at_call 37;refine hF.mono ?_;rintro e w2 ⟨rfl,hs2⟩)
     go_ret2
     exact HR.out _ hs2
   ·have hr:=HR2.out hp;have R:vM s w' (.returned (.tuple #[.int .i64 0,.bool false])) w1:=⟨hs1,by rw[hr]⟩;have HR:=Lib.hid R;clear hr hp hs1 R
    go_wp2
    go_ret2
    exact HR.out
theorem tc:AQ Tryz.prog 54 Ik:=by
 refine gD fun s w hl hg=>?_
 have he:=Go.Proofs.enters_of (P:=Tryz.prog) Tryz.func54 (by kernel_rfl) rfl;unfold CZ;rw[he];exact (wZ s w hl hg).mono fun e w' ⟨h1,h2⟩=>⟨h2,h1⟩
theorem Yj{P:Program}{W:World}{n:String}{g:Nat}{cs:Array Value}(hg:P.globalNamed n=some g)(h:W.var? P n=some cs):∃ T fz,W.heap[g]? = some (.cells cs T fz):=by
 unfold World.var? at h;rw[hg] at h;simp only[obS] at h;split at h
 ·rename_i cs' T fz hh;cases h
  exact⟨T,fz,hh⟩
 ·cases h
theorem zb{P:Program}{w:World}{g:Nat}{t:TypeId}{zero:Array Value}{k:IntKind}
  (h:w.ShapedOpen P) (hg:g<P.globals.size)
  (h0:((begin P (fun _ _=>0) default).world.heap[g]?).bind Obj.row? = some (zero,t)) (hz:zero.size=1)
  (hb:P.buildable t=true) (hc:P.cellTypes P.depth t=some [t]) (hu:P.underlying t=some (.int k)) :
  ∃ m,w.heap[g]? = some (.cells #[.int k m] t):=by
 obtain⟨cs,hh,hs,_⟩:=h.1 g zero t hg h0;obtain⟨m,hm⟩:=cell_of_shapedOpen_int h hg h0 hz hb hc hu;refine⟨m,?_⟩;have h1:cs.size=1:=by omega
 obtain⟨l⟩:=cs
 match l,h1 with
 | [a],_=>
  simp only[World.cell?,hh] at hm;have:a = .int k m:=by simpa using hm
  rw[hh,this]
theorem vk{W:World}(hsh:W.ShapedOpen Tryz.prog)
  (h:Lib.TabIs Tryz.prog W (Tryz.prog.globals.getD 1 default).name .u64 Lib.pow10Tab)
  (h1:∃ tp p,W.var? Tryz.prog (Tryz.prog.globals.getD 2 default).name=some #[.iface tp p])
  (h2:∃ tp p,W.var? Tryz.prog (Tryz.prog.globals.getD 3 default).name=some #[.iface tp p])
 :GT (fun _=>False) W:=by
 intro q hq;unfold iJ at hq;rcases List.mem_cons.1 hq with rfl|hq
 ·unfold Lib.TabIs World.var? at h;rw[show Tryz.prog.globalNamed (Tryz.prog.globals.getD 1 default).name=some 1 by kernel_rfl] at h;simp only[obS] at h;split at h
  ·rename_i cs T fz hh;refine⟨id,cs,T,fz,hh,?_⟩;simp only[Option.some.injEq] at h;show cs=_;rw[h,Lib.pow10Tab,List.map_map];rfl
  ·cases h
 rcases List.mem_cons.1 hq with rfl|hq
 ·obtain⟨tp,p,hv⟩:=h1;obtain⟨T,fz,hh⟩:=Yj (show Tryz.prog.globalNamed (Tryz.prog.globals.getD 2 default).name=some 2 by kernel_rfl) hv;exact⟨id,_,T,fz,hh,tp,p,rfl⟩
 rcases List.mem_cons.1 hq with rfl|hq
 ·obtain⟨tp,p,hv⟩:=h2;obtain⟨T,fz,hh⟩:=Yj (show Tryz.prog.globalNamed (Tryz.prog.globals.getD 3 default).name=some 3 by kernel_rfl) hv;exact⟨id,_,T,fz,hh,tp,p,rfl⟩
 rcases List.mem_cons.1 hq with rfl|hq
 ·obtain⟨m,hm⟩:=zb (g:=0) (t:=3) (zero:=#[.int .i64 0]) (k:=.i64) hsh (of_decide_eq_true (by kernel_rfl)) (by kernel_rfl) rfl (by kernel_rfl) (by kernel_rfl) (by kernel_rfl);exact⟨id,_,_,_,hm,m,rfl⟩
 cases hq
open Go Go.RowKit Go.ChangeShapes Go.WideShapes
theorem TA{H:Type}{enc:TypeId×Value->H}{a:Assume}{C:Checked}{os:Os}{f:FuncId}{fn:Func}{s:ChangeSpec}{conds:List PathCond}{apart fresh handsOn again:Bool}{X:World->Array Value->Prop}
  (hX:∀ (w w':World) (args:Array Value),w.heap=w'.heap->X w args->X w' args)
  (own:ownKnob C.prog.godebug=none) (started:os.Started) (noInit:C.prog.inits.idxOf? f=none) (hfn:C.prog.funcs[f]? = some fn)
  (witness:∃ (w:World) (tape:Tape) (i:Input),w.os=os∧(w.forCall tape i).Shaped C.prog∧i.vars=[]∧Input.okWide C.prog (w.forCall tape i) .any w.heap.size f i ∧
   ((s.pre enc C.prog fn conds apart (w.forCall tape i).memory i.args∧X (w.forCall tape i).memory i.args)∧sizedMet enc C.prog fn (OpenSpec.ofChange s) apart (w.forCall tape i).memory i.args)∧a.holds C.prog (lone (Frame.enter C.prog f i.args .normal) [] (w.forCall tape i)))
  (contract:∀ (W:World) (base:Nat) (args:Array Value) (ds gs:List (DataW H)) (before:List MemPlace),
   (∀ (j:Nat) t v,fn.params[j]? = some t->args[j]? = some v->Value.okWide C.prog W .any base t v) ->
   DataW.Whole enc C.prog fn.params.toList s.vars apart W args.toList ds gs before->X W args->W.ShapedOpen C.prog ->
   Calls C.prog f args W fun e W'=>∃ v,e = .returned v∧s.post enc C.prog fn apart fresh handsOn again W args v W') :
  ReturnsInHanded a C os f .any (fun w args=>(s.pre enc C.prog fn conds apart w args∧X w args)∧sizedMet enc C.prog fn (OpenSpec.ofChange s) apart w args) (s.post enc C.prog fn apart fresh handsOn again):=by
 refine returnsInHanded_of_calls own started noInit witness ?_;intro w tape i _ hsh _ hok hpre hholds;obtain⟨_,_,_,fn',hfn',_,_,_,_,hval⟩:=hok;have e:fn'=fn:=Option.some.inj (hfn'.symm.trans hfn);subst e;obtain⟨⟨⟨ds,gs,before,hw,hc⟩,hx⟩,hz⟩:=hpre;have hw':=DataW.Whole.of_heap (w':=w.forCall tape i) (by rfl) hw;refine (contract (w.forCall tape i) w.heap.size i.args ds gs before hval hw' (hX _ _ _ (by rfl) hx) hsh).mono fun e W' ⟨v,he,hp⟩=>?_
 subst he;exact ChangeSpec.post_blind hp
theorem iW: "*" ++ "errors.errorString" = "*errors.errorString":=by decide
theorem ABj(u:TypeId)(h:Tryz.prog.typeName? 3 u=some "*errors.errorString"):u=250 :=
 typeName_ptr_named (nm:= "errors.errorString") (by rw[iW];kernel_rfl) (by kernel_rfl) (by decide) u (by rw[iW];exact h)
theorem vh:∃ ms,Tryz.prog.underlying 50=some (.interface ms):=by
 have h:(match Tryz.prog.underlying 50 with
  | some (.interface _)=>true
  | _=>false)=true:=by kernel_rfl
 revert h;generalize Tryz.prog.underlying 50=x;intro h;split at h
 ·exact⟨_,rfl⟩
 ·cases h
theorem AGG:Tryz.prog.underlying 250=some (.pointer 252):=by kernel_rfl
theorem ALY:∃ f:Field,Tryz.prog.underlying 252=some (.struct #[f])∧f.type=9∧f.offset=0:=by
 have h:(match Tryz.prog.underlying 252 with
  | some (.struct ⟨[f]⟩)=>decide (f.type=9)&&decide (f.offset=0)
  | _=>false)=true:=by kernel_rfl
 revert h;generalize Tryz.prog.underlying 252=x;intro h;split at h
 ·rename_i f;simp only[baT,dtE] at h;exact⟨f,rfl,h.1,h.2⟩
 ·cases h
theorem AGF:Tryz.prog.underlying 9=some .string:=by kernel_rfl
theorem VJ{n:String}{text:List UInt8}{W:World}{g:Nat}(h:laidMet Tryz.prog [(n,.iface "*errors.errorString" (.ptr (.agg [.lit (.string text)])))] W)(hg:Tryz.prog.globalNamed n=some g)(ht:(Tryz.prog.globals[g]?).map (·.type)=some 50):
  ∃ tp p,W.var? Tryz.prog n=some #[.iface tp p]:=by
 obtain⟨ms,hms⟩:=vh;obtain⟨f,h1,h2,h3⟩:=ALY;obtain⟨a,s,hv,_⟩:=laid_sentinel h hg ht hms ABj AGG h1 h2 h3 AGF (by kernel_rfl) (by kernel_rfl);exact⟨_,_,hv⟩
end Go.Proofs.YteaicgcfpcklkaaGreatDoor
