/- Contracts of functions of Go's library. No condition. -/
import Derived.Test.YtfaenphcgfocnaaGreatDoorEngTA
import Derived.Lib.Bytealg
import Derived.Lib.ItoaNum
import Derived.Lib.SlicesCompact
import Derived.Laws.Externs
namespace Go.Proofs.YtfaenphcgfocnaaGreatDoor
open Go Go.RowKit
set_option linter.unusedVariables false
set_option linter.unusedSimpArgs false
theorem Qx {F:Nat → Prop} {g0:Gh} {args:List AV} {modes:List Md} {w w':World} {v:Value} {r:AV} {outs:List AV} (hs:At (fun _ => False) w w')
  (hr:RV (AW F g0 []) w' g0 [] id v r) (hf:∀ i,¬ Gs r i) (hio:∀ j:Nat,modes[j]? ≠ some Md.io):Yh F g0 args modes w v w' r outs g0 [] id where
 same:=hs.mono fun _ _ c => c.elim
 home:=fun k h hg => by simp [AN] at hg
 inj:=fun k k' hk => by obtain ⟨⟨h,hg⟩,_⟩:=hk; simp [AN] at hg
 nF:=fun k hk => by obtain ⟨⟨h,hg⟩,_⟩:=hk; simp [AN] at hg
 hio:=fun k hk => by obtain ⟨⟨h,hg⟩,_⟩:=hk; simp [AN] at hg
 val:=hr
 κinj:=fun i j hi => (hf i hi).elim
 κio:=fun i j hi => (hf i hi).elim
 out:=fun j hj => (hio j hj).elim
theorem It {F:Nat → Prop} {g:Gh} {w:World} {args:List AV} {vargs:Array Value} (h:FR F g w vargs (List.range args.length) [] (MU args)) {i:Nat} (hi:i < args.length) :
  SR (AW F g (Bm 0 args)) w g (Bm 0 args) (vargs.getD i undef) (Zi i (args.getD i .any)):=by
 have:=h.vs i (by simpa using hi)
 have e1:(List.range args.length).getD i 0 = i:=by rw [List.getD_eq_getElem?_getD,List.getElem?_range hi]; rfl
 rw [e1] at this
 have e2:(MU args).vs.getD i .any = Zi (0 + i) (args.getD i .any):=KL args 0 i hi
 rw [e2,Nat.zero_add] at this
 exact this
theorem Rx {vargs:Array Value} (h:vargs.size = 2):vargs = #[vargs.getD 0 undef,vargs.getD 1 undef]:=by
 obtain ⟨l⟩:=vargs
 match l,h with
 | [a,b],_ => rfl
def AGg (a b:List UInt8):Option Int:=some (Lib.compareBytes a b)
def tq:List AV → Rs
 | [.str a,.str b] => ⟨true,.int .i64 (Lib.compareBytes a b),[.any,.any]⟩
 | _ => Rs.bad
def NG:Ax:=⟨[.bor,.bor],true,tq⟩
theorem yW {a b:List UInt8} {y_:Int} (h:AGg a b = some y_):NG.F [.str a,.str b] = ⟨true,.int .i64 y_,[.any,.any]⟩:=by
 cases h; rfl
theorem ADJ:NG.modes = [.bor,.bor]:=rfl
theorem yb:NG.flat = true:=rfl
attribute [go_sem] ADJ yb
theorem Zl {args:List AV} (h:(tq args).ok = true):∃ a b,args = [.str a,.str b]:=by
 unfold tq at h
 split at h
 ·exact ⟨_,_,rfl⟩
 ·cases h
theorem iL {P:Program} {f:FuncId} {fn:Func} (hf:P.funcs[f]? = some fn) (hname:(fn.name == "runtime.NumGoroutine") = false) (hb:fn.body.isNone = true) (hn:Extern.findNext fn = none)
  (he:Extern.find fn = some Extern.BytealgCompare.compare):AU P f NG:=by
 refine ⟨fun _ => rfl,fun F g0 w args vargs hsh hsz hfr hok => ⟨fun _ => ?_,?_⟩⟩
 ·obtain ⟨a,b,rfl⟩:=Zl hok; rfl
 ·obtain ⟨a,b,rfl⟩:=Zl hok
  have h0:=It hfr (i:=0) (by simp)
  have h1:=It hfr (i:=1) (by simp)
  rw [Rx hsz]
  generalize vargs.getD 0 undef = x at h0
  generalize vargs.getD 1 undef = y at h1
  cases h0; cases h1
  unfold DX
  rw [run_callFunc_extern hf hname hb hn he,Lib.run_compareString]
  simp only [Result.andThen]
  refine ⟨_,g0,[],id,rfl,Qx (At.refl _ _) ?_ (fun i hi => ?_) (fun j hj => ?_)⟩
  ·exact .int
  ·exact absurd hi.2 Bool.false_ne_true
  ·match j with
   | 0 => cases hj
   | 1 => cases hj
   | j + 2 => simp [NG] at hj
def hIdx (s:List UInt8) (c:UInt8):Option Int:=some (Lib.indexByte s c)
def AGd:List AV → Rs
 | [.str a,.int .u8 c] => ⟨true,.int .i64 (Lib.indexByte a c.toNat.toUInt8),[.any,.any]⟩
 | _ => Rs.bad
def uP:Ax:=⟨[.bor,.bor],true,AGd⟩
theorem ADG:uP.modes = [.bor,.bor]:=rfl
theorem yY:uP.flat = true:=rfl
attribute [go_sem] ADG yY
def yB (n b:Int):Option (List UInt8):=if (decide (-9223372036854775808 ≤ n) && decide (n ≤ 9223372036854775807) && decide (b = 10)) = true then some (Lib.itoa n) else none
def Xt:List AV → Rs
 | [.int .i64 n,.int .i64 b] => ⟨decide (-9223372036854775808 ≤ n) && decide (n ≤ 9223372036854775807) && decide (b = 10),.str (Lib.itoa n),[.any,.any]⟩
 | _ => Rs.bad
def ML:Ax:=⟨[.bor,.bor],true,Xt⟩
theorem yU {n b:Int} {y_:List UInt8} (h:yB n b = some y_):ML.F [.int .i64 n,.int .i64 b] = ⟨true,.str y_,[.any,.any]⟩:=by
 unfold yB at h
 split at h
 ·rename_i hc; cases h
  show (⟨_,_,_⟩:Rs) = _
  rw [hc]
 ·cases h
theorem ADH:ML.modes = [.bor,.bor]:=rfl
theorem yZ:ML.flat = true:=rfl
attribute [go_sem] ADH yZ
theorem Zj {args:List AV} (h:(Xt args).ok = true):∃ n,-9223372036854775808 ≤ n ∧ n ≤ 9223372036854775807 ∧ args = [.int .i64 n,.int .i64 10] ∧ Xt args = ⟨true,.str (Lib.itoa n),[.any,.any]⟩:=by
 unfold Xt at h ⊢
 split at h
 ·rename_i n b
  simp only [Bool.and_eq_true,decide_eq_true_eq] at h
  obtain ⟨⟨h1,h2⟩,rfl⟩:=h
  exact ⟨n,h1,h2,rfl,by simp [h1,h2]⟩
 ·cases h
theorem iJ {P:Program} {f:FuncId} (hc:∀ (n:Int) (w:World),-9223372036854775808 ≤ n → n ≤ 9223372036854775807 → GT (fun _ => False) w →
  DX P f #[.int .i64 n,.int .i64 10] w fun e w' => e = .returned (.string ⟨(Lib.itoa n).toArray⟩) ∧ At (fun _ => False) w w'):AU P f ML:=by
 refine ⟨fun _ => rfl,fun F g0 w args vargs hsh hsz hfr hok => ⟨fun _ => ?_,?_⟩⟩
 ·obtain ⟨n,_,_,rfl,e⟩:=Zj hok
  show Fo (Xt _).r = true
  rw [e]; rfl
 ·obtain ⟨n,hn1,hn2,rfl,e⟩:=Zj hok
  have h0:=It hfr (i:=0) (by simp)
  have h1:=It hfr (i:=1) (by simp)
  rw [Rx hsz]
  generalize vargs.getD 0 undef = x at h0
  generalize vargs.getD 1 undef = y at h1
  cases h0; cases h1
  refine (hc n w hn1 hn2 (hfr.tab.mono (At.refl _ _) fun _ _ c => c.elim)).mono fun e' w' ⟨he,hs⟩ => ?_
  refine ⟨_,g0,[],id,he,Qx hs ?_ (fun i hi => ?_) (fun j hj => ?_)⟩
  ·show RV _ _ _ _ _ _ (Xt _).r
   rw [e]; exact .str
  ·have hi':Gs (Xt _).r i:=hi
   rw [e] at hi'
   exact absurd hi'.2 Bool.false_ne_true
  ·match j with
   | 0 => cases hj
   | 1 => cases hj
   | j + 2 => simp [ML] at hj
def AGJ (g:Nat) (x y:Rs):AV → Rs
 | .fn (.func h) _ _ => bif h == g then x else y
 | _ => Rs.bad
def pickC (j g:Nat) (c1 c2:Ax):Ax:=⟨c1.modes,c1.flat,fun args => AGJ g (c1.F args) (c2.F args) (args.getD j .any)⟩
def JE:List AV → Option (List (List UInt8))
 | [] => some []
 | .str l :: r => (JE r).map (l :: ·)
 | _ :: _ => none
theorem OM:∀ ss:List (List UInt8),JE (List.map AV.str ss) = some ss
 | [] => rfl
 | s :: r => by simp [JE,OM r]
theorem Rz:∀ {els:List AV} {ss:List (List UInt8)},JE els = some ss → els = List.map AV.str ss
 | [],ss,h => by simp [JE] at h; subst h; rfl
 | a :: r,ss,h => by
  cases a <;> simp [JE] at h
  obtain ⟨ss',h1,rfl⟩:=h
  rw [Rz h1]; rfl
def Gf (l:List (List UInt8)):List (List UInt8):=l.mergeSort fun x y => decide (x ≤ y)
def Hi (l:List (List UInt8)):List (List UInt8):=Lib.compact l
def AGf {α:Type} (l:List α):Option (List α):=if l.length ≤ 1099511627776 then some l else none
def jk (l:List (List UInt8)):Option (List (List UInt8)):=if l.length < 4611686018427387904 then some (Gf l) else none
def Qr (l:List (List UInt8)):Option (List (List UInt8)):=if l.length < 4611686018427387904 then some (Hi l) else none
def jG:Option (List (List UInt8)) → Rs
 | some ss => ⟨decide (ss.length < 4611686018427387904),.cv undef,[.fresh 1 (List.map AV.str (Gf ss))]⟩
 | none => Rs.bad
def jH:List AV → Rs
 | [.fresh sz els] => bif sz == 1 then jG (JE els) else Rs.bad
 | _ => Rs.bad
def jv:Option (List (List UInt8)) → Rs
 | some ss => ⟨decide (ss.length < 4611686018427387904),.fresh 1 (List.map AV.str (Hi ss)),[.any]⟩
 | none => Rs.bad
def jw:List AV → Rs
 | [.fresh sz els] => bif sz == 1 then jv (JE els) else Rs.bad
 | _ => Rs.bad
def Jw:Ax:=⟨[.io],false,jH⟩
def GG:Ax:=⟨[.mov],false,jw⟩
theorem uj {l y_:List (List UInt8)} (h:jk l = some y_):Jw.F [.fresh 1 (List.map AV.str l)] = ⟨true,.cv undef,[.fresh 1 (List.map AV.str y_)]⟩:=by
 unfold jk at h
 split at h
 ·rename_i hc; cases h
  show jG (JE (List.map AV.str l)) = _
  rw [OM]
  simp only [jG,hc,decide_true]
 ·cases h
theorem fh {l y_:List (List UInt8)} (h:Qr l = some y_):GG.F [.fresh 1 (List.map AV.str l)] = ⟨true,.fresh 1 (List.map AV.str y_),[.any]⟩:=by
 unfold Qr at h
 split at h
 ·rename_i hc; cases h
  show jv (JE (List.map AV.str l)) = _
  rw [OM]
  simp only [jv,hc,decide_true]
 ·cases h
theorem yS:Jw.modes = [.io]:=rfl
theorem vG:Jw.flat = false:=rfl
theorem iw:GG.modes = [.mov]:=rfl
theorem fp:GG.flat = false:=rfl
attribute [go_sem] yS vG iw fp
theorem kR {args:List AV} (h:(jH args).ok = true):∃ ss:List (List UInt8),args = [.fresh 1 (List.map AV.str ss)] ∧ ss.length < 4611686018427387904 ∧ jH args = ⟨true,.cv undef,[.fresh 1 (List.map AV.str (Gf ss))]⟩:=by
 unfold jH at h ⊢
 split at h
 ·rename_i sz els
  by_cases c:sz = 1
  ·subst c
   simp only [beq_self_eq_true,cond_true] at h ⊢
   cases hs:JE els with
   | none => rw [hs] at h; cases h
   | some ss =>
    rw [hs] at h
    have hl:ss.length < 4611686018427387904:=of_decide_eq_true h
    exact ⟨ss,by rw [Rz hs],hl,by simp only [jG,hl,decide_true]⟩
  ·have:(sz == 1) = false:=by simpa using c
   rw [this] at h; cases h
 ·cases h
theorem ne {args:List AV} (h:(jw args).ok = true):∃ ss:List (List UInt8),args = [.fresh 1 (List.map AV.str ss)] ∧ ss.length < 4611686018427387904 ∧ jw args = ⟨true,.fresh 1 (List.map AV.str (Hi ss)),[.any]⟩:=by
 unfold jw at h ⊢
 split at h
 ·rename_i sz els
  by_cases c:sz = 1
  ·subst c
   simp only [beq_self_eq_true,cond_true] at h ⊢
   cases hs:JE els with
   | none => rw [hs] at h; cases h
   | some ss =>
    rw [hs] at h
    have hl:ss.length < 4611686018427387904:=of_decide_eq_true h
    exact ⟨ss,by rw [Rz hs],hl,by simp only [jv,hl,decide_true]⟩
  ·have:(sz == 1) = false:=by simpa using c
   rw [this] at h; cases h
 ·cases h
def iG:List AV → Option (List Int)
 | [] => some []
 | .int .i64 l :: r => (iG r).map (l :: ·)
 | _ :: _ => none
def yq (l:List Int):List Int:=l.mergeSort fun x y => decide (x ≤ y)
def zJ (l:List Int):List Int:=Lib.compact l
def hSortI (l:List Int):Option (List Int):=if l.length < 4611686018427387904 then some (yq l) else none
def AEU (l:List Int):Option (List Int):=if l.length < 4611686018427387904 then some (zJ l) else none
def AAB:Option (List Int) → Rs
 | some ss => ⟨decide (ss.length < 4611686018427387904),.cv undef,[.fresh 1 (List.map (AV.int .i64) (yq ss))]⟩
 | none => Rs.bad
def AAC:List AV → Rs
 | [.fresh sz els] => bif sz == 1 then AAB (iG els) else Rs.bad
 | _ => Rs.bad
def ACr:Option (List Int) → Rs
 | some ss => ⟨decide (ss.length < 4611686018427387904),.fresh 1 (List.map (AV.int .i64) (zJ ss)),[.any]⟩
 | none => Rs.bad
def ACs:List AV → Rs
 | [.fresh sz els] => bif sz == 1 then ACr (iG els) else Rs.bad
 | _ => Rs.bad
def fL:Ax:=⟨[.io],false,AAC⟩
def TM:Ax:=⟨[.mov],false,ACs⟩
theorem uh:fL.modes = [.io]:=rfl
theorem pP:fL.flat = false:=rfl
theorem fg:TM.modes = [.mov]:=rfl
theorem dA:TM.flat = false:=rfl
attribute [go_sem] uh pP fg dA
def zD (BY n:Nat) (i:Int) (m:Nat):Bool:=(decide (0 ≤ i) && decide (i ≤ (n:Int))) && (decide (m = 1) && decide ((n + 1) * BY ≤ 140737488355328))
def hIns (BY:Nat) {α:Type} (l:List α) (i:Int) (v:List α):Option (List α):=if zD BY l.length i v.length = true then some (l.take i.toNat ++ (v ++ l.drop i.toNat)) else none
def AGc (K BY:Nat):List AV → Rs
 | [.fresh sz els,.int .i64 i,.fresh sz2 xs] => ⟨(sz == K && sz2 == K) && zD BY els.length i xs.length,.fresh K (els.take i.toNat ++ (xs ++ els.drop i.toNat)),[.any,.any,.any]⟩
 | _ => Rs.bad
def c_hIns (K BY:Nat):Ax:=⟨[.mov,.bor,.mov],false,AGc K BY⟩
def zH (n:Nat) (i j:Int):Bool:=(decide (0 ≤ i) && decide (i < j)) && (decide (j ≤ (n:Int)) && decide (n ≤ 4611686018427387904))
def hDel {α:Type} (l:List α) (i j:Int):Option (List α):=if zH l.length i j = true then some (l.take i.toNat ++ l.drop j.toNat) else none
def AGe (K:Nat):List AV → Rs
 | [.fresh sz els,.int .i64 i,.int .i64 j] => ⟨(sz == K) && zH els.length i j,.fresh K (els.take i.toNat ++ els.drop j.toNat),[.any,.any,.any]⟩
 | _ => Rs.bad
def c_hDel (K:Nat):Ax:=⟨[.mov,.bor,.bor],false,AGe K⟩
end Go.Proofs.YtfaenphcgfocnaaGreatDoor
