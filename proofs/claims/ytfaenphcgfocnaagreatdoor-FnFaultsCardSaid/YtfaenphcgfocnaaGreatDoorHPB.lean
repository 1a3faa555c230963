/- Plain lemmas, several texts in one. No condition. -/
import Derived.Test.YtfaenphcgfocnaaGreatDoorHPA
namespace Go.Proofs.YtfaenphcgfocnaaGreatDoor
open Go Go.RowKit
set_option linter.unusedSimpArgs false
set_option linter.unusedVariables false
def bG (x:Observer):Bool:=IG x.Name && (decide (-2000 ≤ x.Shift) && decide (x.Shift ≤ 2000))
theorem mu (x:Observer):Jb x = some (bG x):=by
 unfold Jb bG
 simp only [EM,KF,Option.bind_some,Option.isSome_some,Option.getD_some,Bool.or_true,AH]
theorem Yk (x:Observer):GO x = some (bG x):=by
 unfold GO bG
 simp only [GC,KM,Option.bind_some,Option.isSome_some,Option.getD_some,Bool.or_true,AH]
def okO (l:List Observer) (i:Nat):Bool:=bG (l.getD i default) && !(decide (0 < i) && !Op.bytesLess (l.getD (i - 1) default).Name (l.getD i default).Name)
def Xw (l:List Observer):Bool:=(List.range l.length).all (okO l)
def Me (l:List Observer):Bool:=Xw l && decide (l.length ≤ 40)
theorem sw {l:List Observer} (hl:l.length ≤ 1099511627776) {i:Nat} (hi:i < l.length):FP l (i:Int) = some (if okO l i = true then .inl ((i + 1:Nat):Int) else .inr (.inr false)):=by
 simp only [FP,Ak,hi,decide_true,AH,Int.ofNat_lt,if_true,Int.toNat_natCast,Ar (show i < 9223372036854775807 by omega),mu,Option.bind_some,Option.isSome_some,Option.getD_some,Bool.or_true]
 unfold okO
 by_cases h0:0 < i
 ·have e0:decide ((0:Int) < (i:Int)) = true:=by simpa using h0
  have e1:decide (0 < i) = true:=by simpa using h0
  have w1:IntKind.i64.wrap ((i:Int) - 1) = ((i - 1:Nat):Int):=by rw [wrap_i64 (by omega) (by omega)]; omega
  have ok1:BA ((i - 1:Nat):Int) l.length = true:=by rw [Ak]; simp; omega
  simp only [e0,e1,w1,ok1,Bool.or_true,AH,Bool.true_and,Int.toNat_natCast]
  generalize bG (l.getD i default) = A
  generalize Op.bytesLess (l.getD (i - 1) default).Name (l.getD i default).Name = B
  cases A <;> cases B <;> rfl
 ·have e0:decide ((0:Int) < (i:Int)) = false:=by simpa using h0
  have e1:decide (0 < i) = false:=by simpa using h0
  simp only [e0,e1,Bool.false_and,Bool.and_false,Bool.not_false,Bool.true_or,AH,Bool.or_false,Bool.and_true]
  generalize bG (l.getD i default) = A
  cases A <;> rfl
theorem sx {l:List Observer} (hl:l.length ≤ 1099511627776):JH l = some (Me l):=by
 unfold JH Me
 rw [Ek (step:=FP l) (okO l) l.length (Xw l) (yes:=.inl ()) (no:=.inr false) (by unfold Xw; simp) (fun i hi => sw hl hi) (by simp [FP])]
 have e:decide ((l.length:Int) ≤ 40) = decide (l.length ≤ 40):=by rw [Bool.eq_iff_iff]; simp; omega
 simp only [Option.bind_some,Ze]
 cases Xw l <;> simp [e]
theorem dc {l:List Observer} (hl:l.length ≤ 1099511627776) {i:Nat} (hi:i < l.length):AY l l (l.length:Int) (i:Int) = some (if okO l i = true then .inl ((i + 1:Nat):Int) else .inr (.inr false)):=by
 simp only [AY,DH,Ak,hi,decide_true,AH,Int.ofNat_lt,if_true,Int.toNat_natCast,Ar (show i < 9223372036854775807 by omega),Yk,Option.bind_some,Option.isSome_some,Option.getD_some,Bool.or_true]
 unfold okO
 by_cases h0:0 < i
 ·have e0:decide ((0:Int) < (i:Int)) = true:=by simpa using h0
  have e1:decide (0 < i) = true:=by simpa using h0
  have w1:IntKind.i64.wrap ((i:Int) - 1) = ((i - 1:Nat):Int):=by rw [wrap_i64 (by omega) (by omega)]; omega
  have ok1:BA ((i - 1:Nat):Int) l.length = true:=by rw [Ak]; simp; omega
  simp only [e0,e1,w1,ok1,Bool.or_true,AH,Bool.true_and,Int.toNat_natCast]
  generalize bG (l.getD i default) = A
  generalize Op.bytesLess (l.getD (i - 1) default).Name (l.getD i default).Name = B
  cases A <;> cases B <;> rfl
 ·have e0:decide ((0:Int) < (i:Int)) = false:=by simpa using h0
  have e1:decide (0 < i) = false:=by simpa using h0
  simp only [e0,e1,Bool.false_and,Bool.and_false,Bool.not_false,Bool.true_or,AH,Bool.or_false,Bool.and_true]
  generalize bG (l.getD i default) = A
  cases A <;> rfl
theorem Ks {l:List Observer} (hl:l.length ≤ 1099511627776):DR l = some (Me l):=by
 unfold DR BD Me
 by_cases h:40 < (l.length:Int)
 ·have e:decide (l.length ≤ 40) = false:=by simp; omega
  simp [h,e]
 ·have e:decide (l.length ≤ 40) = true:=by simp; omega
  simp only [h,decide_false,Bool.false_eq_true,if_false]
  rw [Ek (step:=AY l l (l.length:Int)) (okO l) l.length (Xw l) (yes:=.inl ()) (no:=.inr false) (by unfold Xw; simp) (fun i hi => dc hl hi) (by simp [AY])]
  simp only [Option.bind_some,Ze,e]
  cases Xw l <;> rfl
def LY (l:List Observer) (n:List UInt8):Option Nat:=(List.range l.length).find? fun i => (l.getD i default).Name == n
theorem gr {l:List Observer} (hl:l.length ≤ 1099511627776) (n:List UInt8):HA l n = some (match LY l n with | some j => (j:Int) | none => -1):=by
 unfold HA
 rw [Dq (step:=Er l n) (fun i => (l.getD i default).Name == n) (fun i => (i:Int)) l.length (fun i hi => by
  simp only [Er,Ak,hi,decide_true,AH,Int.ofNat_lt,if_true,Int.toNat_natCast,Ar (show i < 9223372036854775807 by omega)]
  split <;> rfl) (by simp [Er])]
 show ((some (match LY l n with | some j => .inr (j:Int) | none => .inl ()):Option (Unit ⊕ Int))).bind _ = _
 cases LY l n <;> rfl
theorem Te {l:List Observer} (hl:l.length ≤ 1099511627776) (n:List UInt8):FE l n = some (match LY l n with | some j => ((j:Int),0) | none => (0,3)):=by
 unfold FE BU Aw
 rw [Dq (step:=AZ l n (l.length:Int)) (fun i => (l.getD i default).Name == n) (fun i => (i:Int)) l.length (fun i hi => by
  simp only [AZ,FD,Option.bind_some,Ak,hi,decide_true,AH,Int.ofNat_lt,if_true,Int.toNat_natCast,Ar (show i < 9223372036854775807 by omega)]
  split <;> rfl) (by simp [AZ])]
 show ((((some (match LY l n with | some j => .inr (j:Int) | none => .inl ()):Option (Unit ⊕ Int))).bind _).bind _).bind _ = _
 cases h:LY l n with
 | none => rfl
 | some j =>
  have:(0:Int) ≤ (j:Int):=by omega
  simp [this]
end Go.Proofs.YtfaenphcgfocnaaGreatDoor
namespace Go.Proofs.YtfaenphcgfocnaaGreatDoor
open Go Go.RowKit
set_option linter.unusedSimpArgs false
set_option linter.unusedVariables false
def LX (l:List Star) (n:List UInt8):Option Nat:=(List.range l.length).find? fun i => (l.getD i default).Name == n
theorem ej {l:List Star} {n:List UInt8} {j:Nat} (h:LX l n = some j):j < l.length:=by
 have:=List.mem_of_find?_eq_some h
 simpa using this
theorem bL {l:List Star} (hl:l.length ≤ 1099511627776) (n:List UInt8):Ic l n = some (match LX l n with | some j => (j:Int) | none => -1):=by
 unfold Ic
 rw [Dq (step:=Es l n) (fun i => (l.getD i default).Name == n) (fun i => (i:Int)) l.length (fun i hi => by
  simp only [Es,Ak,hi,decide_true,AH,Int.ofNat_lt,if_true,Int.toNat_natCast,Ar (show i < 9223372036854775807 by omega)]
  split <;> rfl) (by simp [Es])]
 show ((some (match LX l n with | some j => .inr (j:Int) | none => .inl ()):Option (Unit ⊕ Int))).bind _ = _
 cases LX l n <;> rfl
theorem cS {l:List Star} (hl:l.length ≤ 1099511627776) (e:AA):BZ l e = some (match LX l e.Star with | some j => ((j:Int),0) | none => (0,3)):=by
 unfold BZ BM
 rw [Dq (step:=Ao l e (l.length:Int)) (fun i => (l.getD i default).Name == e.Star) (fun i => (i:Int)) l.length (fun i hi => by
  simp only [Ao,Hp,Option.bind_some,Ak,hi,decide_true,AH,Int.ofNat_lt,if_true,Int.toNat_natCast,Ar (show i < 9223372036854775807 by omega)]
  split <;> rfl) (by simp [Ao])]
 show ((((some (match LX l e.Star with | some j => .inr (j:Int) | none => .inl ()):Option (Unit ⊕ Int))).bind _).bind _) = _
 cases h:LX l e.Star with
 | none => rfl
 | some j =>
  have:(0:Int) ≤ (j:Int):=by omega
  simp [this]
def PL (e x:AA):Bool:=((x.Star == e.Star) && (x.Observer == e.Observer)) && (decide ((IntKind.i64.wrap (e.Time - x.Time)) < 100))
def Lh (l:List AA) (e:AA) (i:Nat):Bool:=(List.range i).any fun j => PL e (l.getD j default)
theorem fC {l:List AA} (hl:l.length ≤ 1099511627776) (e:AA):Aq l e = some (Lh l e l.length):=by
 unfold Aq BC
 rw [Dq (step:=Ad l e (l.length:Int)) (fun i => PL e (l.getD i default)) (fun i => (i:Int)) l.length (fun i hi => by
  simp only [Ad,Ho,Option.bind_some,Ak,hi,decide_true,AH,Int.ofNat_lt,if_true,Int.toNat_natCast,Ar (show i < 9223372036854775807 by omega)]
  unfold PL
  split <;> rfl) (by simp [Ad])]
 have ha:Lh l e l.length = ((List.range l.length).find? fun i => PL e (l.getD i default)).isSome:=by
  unfold Lh
  rw [Bool.eq_iff_iff,List.find?_isSome,List.any_eq_true]
 rw [ha]
 cases (List.range l.length).find? fun i => PL e (l.getD i default) with
 | none => rfl
 | some j => simp
theorem kG {l:List AA} {e:AA} {i:Nat} (hi:i ≤ l.length):Lh (l.take i) e (l.take i).length = Lh l e i:=by
 have hl:(l.take i).length = i:=by simp; omega
 rw [hl]
 unfold Lh
 rw [Bool.eq_iff_iff,List.any_eq_true,List.any_eq_true]
 constructor <;> rintro ⟨j,hj,h⟩ <;> refine ⟨j,hj,?_⟩ <;> have hj':j < i:=by simpa using hj
 ·simpa [List.getD_eq_getElem?_getD,List.getElem?_take_of_lt hj'] using h
 ·simpa [List.getD_eq_getElem?_getD,List.getElem?_take_of_lt hj'] using h
theorem jq {l:List AA} (hl:l.length ≤ 1099511627776) (e:AA) {out:List Int} (ho:out.length ≤ 100):∀ i:Nat,i ≤ l.length → AL (BN l out e) (IntKind.i64.wrap ((i:Int) - 1)) = some (out ++ kd 5 (Lh l e i))
 | 0,_ => by
  have:IntKind.i64.wrap (((0:Nat):Int) - 1) = -1:=by decide
  rw [this,Br (r:=out) (by simp [BN])]
  simp [Lh,kd]
 | i + 1,hi => by
  have e1:IntKind.i64.wrap (((i + 1:Nat):Int) - 1) = (i:Int):=by
   rw [show ((i + 1:Nat):Int) - 1 = (i:Int) by omega]
   exact wrap_i64 (by omega) (by omega)
  have ht:Lh l e (i + 1) = (Lh l e i || PL e (l.getD i default)):=by
   unfold Lh; rw [List.range_succ,List.any_append]; simp
  have h0:(0:Int) ≤ (i:Int):=by omega
  have hs:BN l out e (i:Int) = some (if PL e (l.getD i default) = true then .inr (out ++ [5]) else .inl (IntKind.i64.wrap ((i:Int) - 1))):=by
   simp only [BN,h0,decide_true,if_true,Ak,show i < l.length by omega,AH,Int.toNat_natCast,Bf (show (out.length + ([5]:List Int).length) * 8 ≤ 140737488355328 by simp; omega)]
   unfold PL
   split <;> rfl
  rw [e1,ht]
  cases hp:PL e (l.getD i default) with
  | true =>
   rw [Br (r:=out ++ [5]) (by rw [hs,hp]; rfl)]
   simp [kd]
  | false =>
   rw [DU (s':=IntKind.i64.wrap ((i:Int) - 1)) (by rw [hs,hp]; rfl),jq hl e ho i (by omega)]
   simp
def Dw (l:List AA) (i:Nat) (s:List Star) (o:List Observer) (m:Int):List Int :=
 kd 1 (LX s (l.getD i default).Star).isNone ++ kd 2 (LY o (l.getD i default).Observer).isNone ++
  (match LX s (l.getD i default).Star with
   | some k => kd 3 (decide ((l.getD i default).Mag < IntKind.i64.wrap ((s.getD k default).Bright - m))) ++ kd 4 (!(l.getD i default).Fainter && decide (IntKind.i64.wrap ((s.getD k default).Faint + m) < (l.getD i default).Mag))
   | none => []) ++ kd 5 (Lh l (l.getD i default) i)
theorem XQ {l:List AA} (hl:l.length ≤ 1099511627776) {s:List Star} (hs:s.length ≤ 1099511627776) {o:List Observer} (ho:o.length ≤ 1099511627776) (m:Int) {i:Nat} (hi:i < l.length):EF l (i:Int) s o m = some (Dw l i s o m):=by
 unfold EF Dw
 have hct:cut l 0 (i:Int) = l.take i:=by simp [cut]
 have hco:FI 0 (i:Int) l.length = true:=by simp [FI]; omega
 rw [Ak,decide_eq_true hi,AH,Int.toNat_natCast,cS hs,Option.bind_some,Te ho,Option.bind_some,hco,hct,fC (by simp; omega),kG (by omega)]
 cases h1:LX s (l.getD i default).Star with
 | none => cases h2:LY o (l.getD i default).Observer <;> simp [kd,ck]
 | some k =>
  have hk:=ej h1
  cases h2:LY o (l.getD i default).Observer <;> simp [kd,ck,Ak,hk]
end Go.Proofs.YtfaenphcgfocnaaGreatDoor
namespace Go.Proofs.YtfaenphcgfocnaaGreatDoor
open Go Go.RowKit
set_option linter.unusedSimpArgs false
set_option linter.unusedVariables false
set_option maxHeartbeats 4000000 in
theorem sr {l:List AA} (hl:l.length ≤ 1099511627776) {s:List Star} (hs:s.length ≤ 1099511627776) {o:List Observer} (ho:o.length ≤ 1099511627776) (m:Int) {i:Nat} (hi:i < l.length):KE l (i:Int) s o m = some (Dw l i s o m):=by
 unfold KE Dw
 obtain ⟨q2,q3,q4,q5,q6,q7,q8,q9,q10,q11,q12,q13,q14,q15,q16⟩:=(⟨rfl,rfl,rfl,rfl,rfl,rfl,rfl,rfl,rfl,rfl,rfl,rfl,rfl,rfl,rfl⟩:@JT = @BN ∧ @JS = @BN ∧ @JR = @BN ∧ @JQ = @BN ∧ @JP = @BN ∧ @JO = @BN ∧ @JN = @BN ∧ @JM = @BN ∧ @IY = @BN ∧ @IX = @BN ∧ @IW = @BN ∧ @IU = @BN ∧ @IT = @BN ∧ @IS = @BN ∧ @IQ = @BN)
 have dn:=fun (out:List Int) (ho:out.length ≤ 100) => jq hl (l.getD i default) (out:=out) ho i (by omega)
 have a1:BW 1 8 = true:=by decide
 have a2:BW 2 8 = true:=by decide
 have a3:BW 3 8 = true:=by decide
 have a4:BW 4 8 = true:=by decide
 have ap:∀ n:Nat,n ≤ 100 → BW n 8 = true:=fun n h => Bf (by omega)
 rw [Ak,decide_eq_true hi,AH,Int.toNat_natCast,bL hs,Option.bind_some,gr ho,Option.bind_some,Option.bind_some]
 cases h1:LX s (l.getD i default).Star with
 | none =>
  have d1:decide ((-1:Int) < 0) = true:=rfl
  have d2:decide ((0:Int) ≤ -1) = false:=rfl
  cases h2:LY o (l.getD i default).Observer with
  | none =>
   simp only [d1,d2,if_true,Bool.false_and,Bool.not_false,Bool.true_or,AH,Bool.false_eq_true,if_false,ap _ (show ([]:List Int).length + ([1]:List Int).length ≤ 100 by decide),ap _ (show (([]:List Int) ++ ([1]:List Int)).length + ([2]:List Int).length ≤ 100 by decide),q2,q3,q4,q5,q6,q7,q8,q9,q10,q11,q12,q13,q14,q15,q16]
   rw [dn _ (by simp),Option.bind_some]
   simp [kd]
  | some j =>
   have d3:decide ((j:Int) < 0) = false:=decide_eq_false (by omega)
   simp only [d1,d2,d3,if_true,Bool.false_and,Bool.not_false,Bool.true_or,AH,Bool.false_eq_true,if_false,ap _ (show ([]:List Int).length + ([1]:List Int).length ≤ 100 by decide),q2,q3,q4,q5,q6,q7,q8,q9,q10,q11,q12,q13,q14,q15,q16]
   rw [dn _ (by simp),Option.bind_some]
   simp [kd]
 | some k =>
  have hk:=ej h1
  have d1:decide ((k:Int) < 0) = false:=decide_eq_false (by omega)
  have d2:decide ((0:Int) ≤ (k:Int)) = true:=decide_eq_true (by omega)
  have dk:decide (k < s.length) = true:=decide_eq_true hk
  generalize hB:decide ((l.getD i default).Mag < IntKind.i64.wrap ((s.getD k default).Bright - m)) = B
  generalize hA:decide (IntKind.i64.wrap ((s.getD k default).Faint + m) < (l.getD i default).Mag) = A
  generalize hC:(l.getD i default).Fainter = C
  cases h2:LY o (l.getD i default).Observer with
  | none =>
   have d3:decide ((-1:Int) < 0) = true:=rfl
   simp only [d1,d2,d3,hB,hA,hC,Ak,dk,Int.toNat_natCast,if_true,Bool.true_and,Bool.or_true,AH,Bool.false_eq_true,if_false,q2,q3,q4,q5,q6,q7,q8,q9,q10,q11,q12,q13,q14,q15,q16]
   cases B <;> cases C <;> cases A <;>
    simp only [Bool.not_true,Bool.not_false,Bool.true_and,Bool.false_and,Bool.and_true,Bool.and_false,if_true,Bool.false_eq_true,if_false] <;>
    (rw [dn _ (by simp),Option.bind_some]; simp [kd,a1,a2,a3,a4,AH])
  | some j =>
   have d3:decide ((j:Int) < 0) = false:=decide_eq_false (by omega)
   simp only [d1,d2,d3,hB,hA,hC,Ak,dk,Int.toNat_natCast,if_true,Bool.true_and,Bool.or_true,AH,Bool.false_eq_true,if_false,q2,q3,q4,q5,q6,q7,q8,q9,q10,q11,q12,q13,q14,q15,q16]
   cases B <;> cases C <;> cases A <;>
    simp only [Bool.not_true,Bool.not_false,Bool.true_and,Bool.false_and,Bool.and_true,Bool.and_false,if_true,Bool.false_eq_true,if_false] <;>
    (rw [dn _ (by simp),Option.bind_some]; simp [kd,a1,a2,a3,a4,AH])
end Go.Proofs.YtfaenphcgfocnaaGreatDoor
namespace Go.Proofs.YtfaenphcgfocnaaGreatDoor
open Go Go.RowKit
set_option linter.unusedSimpArgs false
set_option linter.unusedVariables false
def bF (x:Star):Bool:=((((IG x.Name && (decide (0 ≤ x.Ascend) && decide (x.Ascend ≤ 86399))) && (decide (-324000 ≤ x.Decl) && decide (x.Decl ≤ 324000))) && (decide (-2000 ≤ x.Bright) && decide (x.Bright ≤ 20000))) && (decide (-2000 ≤ x.Faint) && decide (x.Faint ≤ 20000))) && decide (x.Bright ≤ x.Faint)
theorem mv (x:Star):Jc x = some (bF x):=by
 unfold Jc bF
 simp only [Dj,Fx,Dk,EM,KF,Option.bind_some,Option.isSome_some,Option.getD_some,Bool.or_true,AH]
theorem nA (x:Star):Jg x = some (bF x):=by
 unfold Jg bF
 simp only [Cm,GC,KM,Option.bind_some,Option.isSome_some,Option.getD_some,Bool.or_true,AH,Bool.and_assoc]
def okS (l:List Star) (i:Nat):Bool:=bF (l.getD i default) && !(decide (0 < i) && !(Op.bytesLess (l.getD (i - 1) default).Name (l.getD i default).Name))
def MT (l:List Star):Bool:=(List.range l.length).all (okS l)
theorem sy {l:List Star} (hl:l.length ≤ 1099511627776) {i:Nat} (hi:i < l.length):FQ l (i:Int) = some (if okS l i = true then .inl ((i + 1:Nat):Int) else .inr (.inr false)):=by
 simp only [FQ,Ak,hi,decide_true,AH,Int.ofNat_lt,if_true,Int.toNat_natCast,Ar (show i < 9223372036854775807 by omega),mv,Option.bind_some,Option.isSome_some,Option.getD_some,Bool.or_true]
 unfold okS
 by_cases h0:0 < i
 ·have e0:decide ((0:Int) < (i:Int)) = true:=by simpa using h0
  have e1:decide (0 < i) = true:=by simpa using h0
  have w1:IntKind.i64.wrap ((i:Int) - 1) = ((i - 1:Nat):Int):=by rw [wrap_i64 (by omega) (by omega)]; omega
  have ok1:BA ((i - 1:Nat):Int) l.length = true:=by rw [Ak]; simp; omega
  simp only [e0,e1,w1,ok1,Bool.or_true,AH,Bool.true_and,Int.toNat_natCast]
  generalize bF (l.getD i default) = A
  generalize Op.bytesLess (l.getD (i - 1) default).Name (l.getD i default).Name = B
  cases A <;> cases B <;> rfl
 ·have e0:decide ((0:Int) < (i:Int)) = false:=by simpa using h0
  have e1:decide (0 < i) = false:=by simpa using h0
  simp only [e0,e1,Bool.false_and,Bool.and_false,Bool.not_false,Bool.true_or,AH,Bool.or_false,Bool.and_true]
  generalize bF (l.getD i default) = A
  cases A <;> rfl
theorem tA {l:List Star} (hl:l.length ≤ 1099511627776):Hw l = some (MT l && decide (l.length ≤ 60)):=by
 unfold Hw
 rw [Ek (step:=FQ l) (okS l) l.length (MT l) (yes:=.inl ()) (no:=.inr false) (by unfold MT; simp) (fun i hi => sy hl hi) (by simp [FQ])]
 have e:decide ((l.length:Int) ≤ 60) = decide (l.length ≤ 60):=by rw [Bool.eq_iff_iff]; simp; omega
 simp only [Option.bind_some,Ze]
 cases MT l <;> simp [e]
theorem aw {l:List Star} (hl:l.length ≤ 1099511627776) {i:Nat} (hi:i < l.length):Ai l l (l.length:Int) (i:Int) = some (if okS l i = true then .inl ((i + 1:Nat):Int) else .inr (.inr false)):=by
 simp only [Ai,FV,Ak,hi,decide_true,AH,Int.ofNat_lt,if_true,Int.toNat_natCast,Ar (show i < 9223372036854775807 by omega),nA,Option.bind_some,Option.isSome_some,Option.getD_some,Bool.or_true]
 unfold okS
 by_cases h0:0 < i
 ·have e0:decide ((0:Int) < (i:Int)) = true:=by simpa using h0
  have e1:decide (0 < i) = true:=by simpa using h0
  have w1:IntKind.i64.wrap ((i:Int) - 1) = ((i - 1:Nat):Int):=by rw [wrap_i64 (by omega) (by omega)]; omega
  have ok1:BA ((i - 1:Nat):Int) l.length = true:=by rw [Ak]; simp; omega
  simp only [e0,e1,w1,ok1,Bool.or_true,AH,Bool.true_and,Int.toNat_natCast]
  generalize bF (l.getD i default) = A
  generalize Op.bytesLess (l.getD (i - 1) default).Name (l.getD i default).Name = B
  cases A <;> cases B <;> rfl
 ·have e0:decide ((0:Int) < (i:Int)) = false:=by simpa using h0
  have e1:decide (0 < i) = false:=by simpa using h0
  simp only [e0,e1,Bool.false_and,Bool.and_false,Bool.not_false,Bool.true_or,AH,Bool.or_false,Bool.and_true]
  generalize bF (l.getD i default) = A
  cases A <;> rfl
theorem OI {l:List Star} (hl:l.length ≤ 1099511627776):Dx l = some (MT l && decide (l.length ≤ 60)):=by
 unfold Dx BT
 by_cases h:60 < (l.length:Int)
 ·have e:decide (l.length ≤ 60) = false:=by simp; omega
  simp [h,e]
 ·have e:decide (l.length ≤ 60) = true:=by simp; omega
  simp only [h,decide_false,Bool.false_eq_true,if_false]
  rw [Ek (step:=Ai l l (l.length:Int)) (okS l) l.length (MT l) (yes:=.inl ()) (no:=.inr false) (by unfold MT; simp) (fun i hi => aw hl hi) (by simp [Ai])]
  simp only [Option.bind_some,Ze,e]
  cases MT l <;> rfl
end Go.Proofs.YtfaenphcgfocnaaGreatDoor
namespace Go.Proofs.YtfaenphcgfocnaaGreatDoor
open Go Go.RowKit
set_option linter.unusedSimpArgs false
set_option linter.unusedVariables false
def Eh (l:List AA) (s:List Star) (o:List Observer) (m:Int):Nat → List AJ
 | 0 => []
 | i + 1 => Eh l s o m i ++ (Dw l i s o m).map (AJ.mk (i:Int))
theorem TE (k:Int) (b:Bool):(kd k b).length ≤ 1:=by cases b <;> simp [kd]
theorem Ly (l:List AA) (i:Nat) (s:List Star) (o:List Observer) (m:Int):(Dw l i s o m).length ≤ 5:=by
 unfold Dw
 cases LX s (l.getD i default).Star with
 | none =>
  have h1:=TE 1 true; have h2:=TE 2 (LY o (l.getD i default).Observer).isNone; have h3:=TE 5 (Lh l (l.getD i default) i)
  simp only [Option.isNone_none,List.length_append,List.length_nil]; omega
 | some k =>
  have h1:=TE 1 false; have h2:=TE 2 (LY o (l.getD i default).Observer).isNone; have h3:=TE 5 (Lh l (l.getD i default) i)
  have h4:=TE 3 (decide ((l.getD i default).Mag < IntKind.i64.wrap ((s.getD k default).Bright - m)))
  have h5:=TE 4 (!(l.getD i default).Fainter && decide (IntKind.i64.wrap ((s.getD k default).Faint + m) < (l.getD i default).Mag))
  simp only [Option.isNone_some,List.length_append]; omega
theorem Le (l:List AA) (s:List Star) (o:List Observer) (m:Int):∀ i,(Eh l s o m i).length ≤ 5 * i
 | 0 => by simp [Eh]
 | i + 1 => by
  have:=Le l s o m i
  have:=Ly l i s o m
  simp [Eh]; omega
theorem Oe {step:List AJ × Int → Option ((List AJ × Int) ⊕ List AJ)} {ks:List Int} {i:Int} (hs:∀ (out:List AJ) (k:Nat),k < ks.length → out.length ≤ 1000000 → step (out,(k:Int)) = some (.inl (out ++ [AJ.mk i (ks.getD k default)],((k + 1:Nat):Int)))) (he:∀ out,step (out,(ks.length:Int)) = some (.inr out)) {out:List AJ} (ho:out.length + ks.length ≤ 1000000) :
  AL step (out,0) = some (out ++ ks.map (AJ.mk i)):=by
 have key:∀ n k:Nat,k + n = ks.length → AL step (out ++ (ks.take k).map (AJ.mk i),(k:Int)) = some (out ++ ks.map (AJ.mk i)):=by
  intro n
  induction n with
  | zero =>
   intro k hk
   obtain rfl:k = ks.length:=by omega
   rw [Br (he _),List.take_length]
  | succ n ih =>
   intro k hk
   rw [DU (hs _ k (by omega) (by simp; omega)),← ih (k + 1) (by omega)]
   have:(ks.take (k + 1)).map (AJ.mk i) = (ks.take k).map (AJ.mk i) ++ [AJ.mk i (ks.getD k default)]:=by
    rw [List.take_add_one,List.map_append]
    have hlt:k < ks.length:=by omega
    simp [List.getD_eq_getElem?_getD,hlt]
   rw [this,List.append_assoc]
 have:=key ks.length 0 (by omega)
 simpa using this
theorem jA {l:List AA} {s:List Star} {o:List Observer} (hl:l.length ≤ 1048576) (hs:s.length ≤ 1048576) (ho:o.length ≤ 1048576) (m:Int) :
  ∃ r c,r.length ≤ 1048576 ∧ DO l s o m = some (r,c) ∧ Bj l s o m = some (r,c):=by
 unfold DO Bj
 rw [XO (by omega),Iv (by omega),tA (by omega),OI (by omega),sx (by omega),Ks (by omega)]
 simp only [Option.bind_some,Option.isSome_some,Option.getD_some,Bool.or_true,AH,EM,GC]
 by_cases hv:((!(CZ l && decide (l.length ≤ 100)) || !(MT s && decide (s.length ≤ 60))) || !(Me o)) = true
 ·rw [if_pos hv,if_pos hv]; exact ⟨[],1,by simp,rfl,rfl⟩
 rw [if_neg hv,if_neg hv]
 by_cases hm:(!(decide (0 ≤ m) && decide (m ≤ 20000))) = true
 ·rw [if_pos hm,if_pos hm]; exact ⟨[],2,by simp,rfl,rfl⟩
 rw [if_neg hm,if_neg hm]
 have h100:l.length ≤ 100:=by
  simp only [Bool.or_eq_true,Bool.not_eq_true',Bool.and_eq_false_iff,not_or] at hv
  have:=hv.1.1.2
  simpa using this
 have e1:=JD (step:=CE l s o m) (fun i => (Eh l s o m i,(i:Int))) l.length (r:=Eh l s o m l.length) (fun i hi => by
  have hk:=Ly l i s o m
  have ha:=Le l s o m i
  simp only [CE,Int.ofNat_lt,hi,decide_true,if_true,sr (show l.length ≤ 1099511627776 by omega) (show s.length ≤ 1099511627776 by omega) (show o.length ≤ 1099511627776 by omega) m hi,Option.bind_some]
  rw [Oe (ks:=Dw l i s o m) (i:=(i:Int)) (fun out k hk' ho' => by
   simp only [DE,Int.ofNat_lt,hk',decide_true,if_true,Ak,AH,Int.toNat_natCast,Ar (show k < 9223372036854775807 by omega),Bf (show (out.length + ([(AJ.mk (i:Int) ((Dw l i s o m).getD k default))]:List AJ).length) * 16 ≤ 140737488355328 by simp; omega)]) (fun out => by simp [DE]) (by omega),Option.bind_some,Ar (show i < 9223372036854775807 by omega)]
  rfl) (by simp [CE])
 have e2:=JD (step:=BS l s o m (l.length:Int)) (fun i => (Eh l s o m i,(i:Int))) l.length (r:=Eh l s o m l.length) (fun i hi => by
  have hk:=Ly l i s o m
  have ha:=Le l s o m i
  simp only [BS,Int.ofNat_lt,hi,decide_true,if_true,XQ (show l.length ≤ 1099511627776 by omega) (show s.length ≤ 1099511627776 by omega) (show o.length ≤ 1099511627776 by omega) m hi,Option.bind_some]
  rw [Oe (ks:=Dw l i s o m) (i:=(i:Int)) (fun out k hk' ho' => by
   simp only [CG,Int.ofNat_lt,hk',decide_true,if_true,Ak,AH,Int.toNat_natCast,Ar (show k < 9223372036854775807 by omega),Bf (show (out.length + ([(AJ.mk (i:Int) ((Dw l i s o m).getD k default))]:List AJ).length) * 16 ≤ 140737488355328 by simp; omega)]) (fun out => by simp [CG]) (by omega),Option.bind_some,Ar (show i < 9223372036854775807 by omega)]
  rfl) (by simp [BS])
 refine ⟨Eh l s o m l.length,0,by have:=Le l s o m l.length; omega,?_,?_⟩
 ·have e1':AL (CE l s o m) ([],0) = _:=e1
  rw [e1']; rfl
 ·have e2':AL (BS l s o m (l.length:Int)) ([],0) = _:=e2
  rw [e2']; rfl
end Go.Proofs.YtfaenphcgfocnaaGreatDoor
