/- Contracts of functions of Go's library that work on texts. No condition. -/
import Derived.Test.YtfaenphcgfocnaaGreatDoorEngSH
import Derived.Lib.IndexMore
import Derived.Lib.Split
import Derived.Lib.Join
import Derived.Lib.Strings
import Derived.Lib.ParseIntB
namespace Go.Proofs.YtfaenphcgfocnaaGreatDoor
open Go Go.RowKit
set_option linter.unusedVariables false
set_option linter.unusedSimpArgs false
def tn (s p:List UInt8):Option (List UInt8 × List UInt8 × Bool):=if s.length < 4294967281 then some (Lib.cut s p) else none
def tl:List AV → Rs
 | [.str s,.str p] => ⟨decide (s.length < 4294967281),.tup [.str (Lib.cut s p).1,.str (Lib.cut s p).2.1,.bool (Lib.cut s p).2.2],[.any,.any]⟩
 | _ => Rs.bad
def NF:Ax:=⟨[.bor,.bor],true,tl⟩
theorem yV {a b:List UInt8} {y_:List UInt8 × List UInt8 × Bool} (h:tn a b = some y_):NF.F [.str a,.str b] = ⟨true,.tup [.str y_.1,.str y_.2.1,.bool y_.2.2],[.any,.any]⟩:=by
 unfold tn at h
 split at h
 ·rename_i hc; cases h
  show (⟨_,_,_⟩:Rs) = _
  rw [decide_eq_true hc]
 ·cases h
theorem ADI:NF.modes = [.bor,.bor]:=rfl
theorem ya:NF.flat = true:=rfl
attribute [go_sem] ADI ya
theorem Zk {args:List AV} (h:(tl args).ok = true):∃ s p,s.length < 4294967281 ∧ args = [.str s,.str p]:=by
 unfold tl at h
 split at h
 ·rename_i s p
  exact ⟨s,p,of_decide_eq_true h,rfl⟩
 ·cases h
theorem bor2 {c:Ax} (hm:c.modes = [.bor,.bor]) (j:Nat):c.modes[j]? ≠ some Md.io:=by
 rw [hm]
 match j with
 | 0 => intro h; cases h
 | 1 => intro h; cases h
 | j + 2 => simp
theorem bor1 {c:Ax} (hm:c.modes = [.bor]) (j:Nat):c.modes[j]? ≠ some Md.io:=by
 rw [hm]
 match j with
 | 0 => intro h; cases h
 | j + 1 => simp
theorem iK {P:Program} {f:FuncId} (hc:∀ (s p:List UInt8) (w:World),s.length < 4294967281 → GT (fun _ => False) w →
  DX P f #[.string ⟨s.toArray⟩,.string ⟨p.toArray⟩] w fun e w' => e = .returned (.tuple #[.string ⟨(Lib.cut s p).1.toArray⟩,.string ⟨(Lib.cut s p).2.1.toArray⟩,.bool (Lib.cut s p).2.2]) ∧ At (fun _ => False) w w'):AU P f NF:=by
 refine ⟨fun _ => rfl,fun F g0 w args vargs hsh hsz hfr hok => ⟨fun _ => ?_,?_⟩⟩
 ·obtain ⟨s,p,_,rfl⟩:=Zk hok; rfl
 ·obtain ⟨s,p,hl,rfl⟩:=Zk hok
  have h0:=It hfr (i:=0) (by simp)
  have h1:=It hfr (i:=1) (by simp)
  rw [Rx hsz]
  generalize vargs.getD 0 undef = x at h0
  generalize vargs.getD 1 undef = y at h1
  cases h0; cases h1
  refine (hc s p w hl (hfr.tab.mono (At.refl _ _) fun _ _ c => c.elim)).mono fun e' w' ⟨he,hs⟩ => ?_
  refine ⟨_,g0,[],id,he,Qx hs ⟨_,rfl,rfl,fun j hj => ?_⟩ (fun i hi => ?_) (bor2 rfl)⟩
  ·match j,hj with
   | 0,_ => exact .str
   | 1,_ => exact .str
   | 2,_ => exact .bool
  ·obtain ⟨j,_,hj,hf⟩:=hi
   match j,hj with
   | 0,_ => exact absurd hf Bool.false_ne_true
   | 1,_ => exact absurd hf Bool.false_ne_true
   | 2,_ => exact absurd hf Bool.false_ne_true
def hSplit (s p:List UInt8):Option (List (List UInt8)):=if (decide (s.length < 4294967281) && decide (1 ≤ p.length)) = true then some (Lib.split s p) else none
def xz:List AV → Rs
 | [.str s,.str p] => ⟨decide (s.length < 4294967281) && decide (1 ≤ p.length),.fresh 1 (List.map AV.str (Lib.split s p)),[.any,.any]⟩
 | _ => Rs.bad
def fK:Ax:=⟨[.bor,.bor],true,xz⟩
theorem ug:fK.modes = [.bor,.bor]:=rfl
theorem pO:fK.flat = true:=rfl
attribute [go_sem] ug pO
def tB (l:List (List UInt8)) (p:List UInt8):Bool:=decide (l.length ≤ 1048576) && decide ((Lib.join l p).length ≤ 140737488355328)
def hJoin (l:List (List UInt8)) (p:List UInt8):Option (List UInt8):=if tB l p = true then some (Lib.join l p) else none
def ACl:List AV → Rs
 | [.sl sz els,.str p] => match JE els with
  | some l => ⟨tB l p,.str (Lib.join l p),[.any,.any]⟩
  | none => Rs.bad
 | _ => Rs.bad
def jy:Ax:=⟨[.bor,.bor],true,ACl⟩
theorem yT:jy.modes = [.bor,.bor]:=rfl
theorem vH:jy.flat = true:=rfl
attribute [go_sem] yT vH
def Dl (s:List UInt8):Int × Bool :=
 if (Lib.trimPrefix s [45]).length < 1 ∨ 18 < (Lib.trimPrefix s [45]).length then (0,false) else
 match Lib.parseIntB 64 s with
 | .ok v => if Lib.itoa v = s then (v,true) else (0,false)
 | _ => (0,false)
def Xs (s:List UInt8):Option (Int × Bool):=if s.length ≤ 281474976710656 then some (Dl s) else none
def cU:List AV → Rs
 | [.str s] => ⟨decide (s.length ≤ 281474976710656),.tup [.int .i64 (Dl s).1,.bool (Dl s).2],[.any]⟩
 | _ => Rs.bad
def Ji:Ax:=⟨[.bor],true,cU⟩
theorem pN {a:List UInt8} {y_:Int × Bool} (h:Xs a = some y_):Ji.F [.str a] = ⟨true,.tup [.int .i64 y_.1,.bool y_.2],[.any]⟩:=by
 unfold Xs at h
 split at h
 ·rename_i hc; cases h
  show (⟨_,_,_⟩:Rs) = _
  rw [decide_eq_true hc]
 ·cases h
theorem ui:Ji.modes = [.bor]:=rfl
theorem pQ:Ji.flat = true:=rfl
attribute [go_sem] ui pQ
theorem TH {args:List AV} (h:(cU args).ok = true):∃ s:List UInt8,s.length ≤ 281474976710656 ∧ args = [.str s]:=by
 unfold cU at h
 split at h
 ·rename_i s
  exact ⟨s,of_decide_eq_true h,rfl⟩
 ·cases h
theorem kE {vargs:Array Value} (h:vargs.size = 1):vargs = #[vargs.getD 0 undef]:=by
 obtain ⟨l⟩:=vargs
 match l,h with
 | [a],_ => rfl
theorem cT {P:Program} {f:FuncId} (hc:∀ (s:List UInt8) (w:World),s.length ≤ 281474976710656 → GT (fun _ => False) w →
  DX P f #[.string ⟨s.toArray⟩] w fun e w' => e = .returned (.tuple #[.int .i64 (Dl s).1,.bool (Dl s).2]) ∧ At (fun _ => False) w w'):AU P f Ji:=by
 refine ⟨fun _ => rfl,fun F g0 w args vargs hsh hsz hfr hok => ⟨fun _ => ?_,?_⟩⟩
 ·obtain ⟨s,_,rfl⟩:=TH hok; rfl
 ·obtain ⟨s,hl,rfl⟩:=TH hok
  have h0:=It hfr (i:=0) (by simp)
  rw [kE hsz]
  generalize vargs.getD 0 undef = x at h0
  cases h0
  refine (hc s w hl (hfr.tab.mono (At.refl _ _) fun _ _ c => c.elim)).mono fun e' w' ⟨he,hs⟩ => ?_
  refine ⟨_,g0,[],id,he,Qx hs ⟨_,rfl,rfl,fun j hj => ?_⟩ (fun i hi => ?_) (bor1 rfl)⟩
  ·match j,hj with
   | 0,_ => exact .int
   | 1,_ => exact .bool
  ·obtain ⟨j,_,hj,hf⟩:=hi
   match j,hj with
   | 0,_ => exact absurd hf Bool.false_ne_true
   | 1,_ => exact absurd hf Bool.false_ne_true
end Go.Proofs.YtfaenphcgfocnaaGreatDoor
