/- Plain lemmas, several texts in one. No condition. -/
import Derived.Test.YtfaenphcgfocnaaGreatDoorFAL
import Derived.Test.YtfaenphcgfocnaaGreatDoorHPA
import Derived.Test.YtfaenphcgfocnaaGreatDoorHPC
namespace Go.Proofs.YtfaenphcgfocnaaGreatDoor
open Go Go.RowKit
set_option linter.unusedSimpArgs false
set_option linter.unusedVariables false
def Ci (m:Nat) (s:AQ):Prop:=0 ≤ s.at_ ∧ s.at_ + m ≤ 1000000000000 ∧ s.code_.length ≤ 1099511627776
theorem Ci.le {m n:Nat} {s:AQ} (h:Ci m s) (hn:n ≤ m):Ci n s:=⟨h.1,by have:=h.2.1; omega,h.2.2⟩
theorem RZ (c:List UInt8):Ey c = some ⟨c,0,0⟩:=id rfl
theorem LL {c:List UInt8} (h:c.length ≤ 1099511627776):Ci 900000000000 ⟨c,0,0⟩:=⟨by show (0:Int) ≤ 0; omega,by show (0:Int) + _ ≤ _; omega,h⟩
theorem iu (n:Int):0 ≤ IntKind.u64.wrap (BitVec.ofInt (IntKind.bits .u64) n &&& BitVec.ofInt (IntKind.bits .u64) 255).toNat ∧ IntKind.u64.wrap (BitVec.ofInt (IntKind.bits .u64) n &&& BitVec.ofInt (IntKind.bits .u64) 255).toNat ≤ 255:=by
  have h:(BitVec.ofInt (IntKind.bits .u64) n &&& BitVec.ofInt (IntKind.bits .u64) 255).toNat ≤ 255:=by
    rw [BitVec.toNat_and]
    refine Nat.le_trans Nat.and_le_right ?_
    decide
  generalize (BitVec.ofInt (IntKind.bits .u64) n &&& BitVec.ofInt (IntKind.bits .u64) 255).toNat = q at h ⊢
  unfold IntKind.wrap IntKind.bits
  simp [IntKind.signed]
  omega
theorem jO {m:Nat} {s:AQ} (h:Ci (m + 1) s):∃ v s',EP s = some (v,s') ∧ 0 ≤ v ∧ v ≤ 255 ∧ Ci m s':=by
  obtain ⟨c,at_,seed⟩:=s
  obtain ⟨h1,h2,h3⟩:=h
  simp only at h1 h2 h3
  have w:IntKind.i64.wrap (at_ + 1) = at_ + 1:=wrap_i64 (by omega) (by omega)
  have hn:∀ z,Ci m ⟨c,at_ + 1,z⟩:=fun z => ⟨by show 0 ≤ at_ + 1; omega,by show at_ + 1 + (m:Int) ≤ _; omega,h3⟩
  have w255:∀ n,IntKind.i64.wrap (IntKind.u64.wrap (BitVec.ofInt (IntKind.bits .u64) n &&& BitVec.ofInt (IntKind.bits .u64) 255).toNat) = IntKind.u64.wrap (BitVec.ofInt (IntKind.bits .u64) n &&& BitVec.ofInt (IntKind.bits .u64) 255).toNat:=fun n => by
    have:=iu n
    exact wrap_i64 (by omega) (by omega)
  unfold EP
  simp only [w]
  by_cases c1:at_ < (c.length:Int)
  · have b:=yd (c.getD at_.toNat default)
    have c2:at_ + 1 ≤ (c.length:Int):=by omega
    rw [GA h1 (by omega)]
    simp only [c1,c2,decide_true,if_true,AH]
    exact ⟨_,_,rfl,by omega,by omega,hn _⟩
  · simp only [c1,decide_false,Bool.false_eq_true,if_false]
    have c2:¬ at_ + 1 ≤ (c.length:Int):=by omega
    simp only [c2,decide_false,Bool.false_eq_true,if_false]
    rw [vg (by omega),AH,w255]
    exact ⟨_,_,rfl,(iu _).1,(iu _).2,hn _⟩
theorem Bc {m:Nat} {s:AQ} (h:Ci (m + 2) s) {n:Int} (hn:n ≤ 9223372036854775807):∃ v s',AI s n = some (v,s') ∧ 0 ≤ v ∧ (1 ≤ n → v < n) ∧ (n ≤ 1 → v = 0) ∧ Ci m s':=by
  unfold AI
  by_cases c:n ≤ 1
  · simp only [c,decide_true,if_true]
    exact ⟨0,s,rfl,by omega,by omega,fun _ => rfl,h.le (by omega)⟩
  · obtain ⟨v1,s1,e1,a1,b1,h1⟩:=jO h
    obtain ⟨v2,s2,e2,a2,b2,h2⟩:=jO h1
    simp only [c,decide_false,Bool.false_eq_true,if_false,e1,Option.bind_some]
    by_cases c2:200 < n
    · have w1:IntKind.i64.wrap (v1 * 256) = v1 * 256:=wrap_i64 (by omega) (by omega)
      have w2:IntKind.i64.wrap (v1 * 256 + v2) = v1 * 256 + v2:=wrap_i64 (by omega) (by omega)
      simp only [c2,decide_true,if_true,e2,Option.bind_some,Pp (show n ≠ 0 by omega),AH,w1,w2,Int.tmod_eq_emod_of_nonneg (show 0 ≤ v1 * 256 + v2 by omega)]
      exact ⟨_,_,rfl,Int.emod_nonneg _ (by omega),fun _ => Int.emod_lt_of_pos _ (by omega),fun hc => hc.elim,h2⟩
    · simp only [c2,decide_false,Bool.false_eq_true,if_false,Pp (show n ≠ 0 by omega),AH,Int.tmod_eq_emod_of_nonneg a1]
      exact ⟨_,_,rfl,Int.emod_nonneg _ (by omega),fun _ => Int.emod_lt_of_pos _ (by omega),fun hc => hc.elim,h1.le (by omega)⟩
end Go.Proofs.YtfaenphcgfocnaaGreatDoor
namespace Go.Proofs.YtfaenphcgfocnaaGreatDoor
open Go Go.RowKit
set_option linter.unusedSimpArgs false
set_option linter.unusedVariables false
theorem Gv {m:Nat} {s:AQ} (h:Ci (m + 2) s) {l:List Int} (h1:1 ≤ l.length) (h2:l.length ≤ 1000):∃ v s',BH s l = some (v,s') ∧ v ∈ l ∧ Ci m s':=by
  obtain ⟨v,s',e,a,b,_,h'⟩:=Bc h (n:=(l.length:Int)) (by omega)
  have:=b (by omega)
  unfold BH
  rw [e]
  simp only [Option.bind_some]
  rw [GA a (by omega),AH]
  exact ⟨_,s',rfl,LW (by omega) _,h'⟩
end Go.Proofs.YtfaenphcgfocnaaGreatDoor
namespace Go.Proofs.YtfaenphcgfocnaaGreatDoor
open Go Go.RowKit
set_option linter.unusedSimpArgs false
set_option linter.unusedVariables false
theorem FU {m:Nat} {s:AQ} (h:Ci (m + 2) s) {n:Int} (hn:n ≤ 9223372036854775807):∃ v s',Ag s n = some (v,s') ∧ Ci m s':=by
  obtain ⟨v,s',e,_,_,_,h'⟩:=Bc h hn
  exact ⟨v == 0,s',by unfold Ag; rw [e]; rfl,h'⟩
end Go.Proofs.YtfaenphcgfocnaaGreatDoor
namespace Go.Proofs.YtfaenphcgfocnaaGreatDoor
open Go Go.RowKit
set_option linter.unusedSimpArgs false
set_option linter.unusedVariables false
theorem Lj {m:Nat} {s:AQ} (h:Ci (m + 2) s) {l:List (List UInt8)} (h1:1 ≤ l.length) (h2:l.length ≤ 1000):∃ v s',BO s l = some (v,s') ∧ v ∈ l ∧ Ci m s':=by
  obtain ⟨v,s',e,a,b,_,h'⟩:=Bc h (n:=(l.length:Int)) (by omega)
  have:=b (by omega)
  unfold BO
  rw [e]
  simp only [Option.bind_some]
  rw [GA a (by omega),AH]
  exact ⟨_,s',rfl,LW (by omega) _,h'⟩
end Go.Proofs.YtfaenphcgfocnaaGreatDoor
namespace Go.Proofs.YtfaenphcgfocnaaGreatDoor
open Go Go.RowKit
set_option linter.unusedSimpArgs false
set_option linter.unusedVariables false
def yH (a b:AA):Bool:=!DM a b && !DM b a
theorem XP {l:List AA} (hl:l.length ≤ 1099511627776) (e:AA):EC l e = some (match (List.range l.length).find? (fun i => yH (l.getD i default) e) with | some j => (j:Int) | none => -1):=by
  unfold EC
  rw [Dq (step:=En l e) (fun i => yH (l.getD i default) e) (fun j => (j:Int)) l.length
    (fun i hi => by
      simp only [En,Ak,hi,decide_true,AH,Int.ofNat_lt,if_true,Int.toNat_natCast,Ar (show i < 9223372036854775807 by omega),Ng,Option.bind_some,Option.isSome_some,Option.getD_some,Bool.or_true]
      by_cases hh:yH (l.getD i default) e = true
      · have hh2:(!DM (l.getD i default) e && !DM e (l.getD i default)) = true:=hh
        rw [if_pos hh,if_pos hh2]
      · have hh2:¬ (!DM (l.getD i default) e && !DM e (l.getD i default)) = true:=hh
        rw [if_neg hh,if_neg hh2])
    (by simp [En])]
  cases (List.range l.length).find? (fun i => yH (l.getD i default) e) <;> rfl
theorem TA {l:List AA} (hl:l.length ≤ 1000) (e:AA):∀ k:Nat,k ≤ l.length → (k < l.length → DM e (l.getD k default) = true) →
    ∃ k':Nat,k' ≤ l.length ∧ AL (ET l e) (k:Int) = some (k':Int) ∧ (k' < l.length → DM e (l.getD k' default) = true) ∧ (0 < k' → DM e (l.getD (k' - 1) default) = false)
  | 0,hk,hb => ⟨0,hk,Br (by simp [ET,AH]),hb,fun h => by omega⟩
  | k + 1,hk,hb => by
    have e0:decide ((0:Int) < ((k + 1:Nat):Int)) = true:=decide_eq_true (by omega)
    have w1:IntKind.i64.wrap (((k + 1:Nat):Int) - 1) = (k:Int):=by rw [wrap_i64 (by omega) (by omega)]; omega
    have ok1:BA (k:Int) l.length = true:=by rw [Ak]; simp; omega
    cases hbe:DM e (l.getD k default)
    · refine ⟨k + 1,hk,Br ?_,hb,fun _ => by simpa using hbe⟩
      simp only [ET,e0,w1,ok1,Ng,Int.toNat_natCast,hbe,Option.isSome_some,Option.getD_some,Bool.not_true,Bool.false_or,Bool.or_true,AH,Bool.and_false,Bool.false_eq_true,if_false]
    · rw [DU (s':=(k:Int)) (by
        simp only [ET,e0,w1,ok1,Ng,Int.toNat_natCast,hbe,Option.isSome_some,Option.getD_some,Bool.not_true,Bool.false_or,Bool.or_true,AH,Bool.and_true,if_true])]
      exact TA hl e k (by omega) (fun _ => hbe)
theorem dj (l:List AA) (e:AA) {k:Nat} (hk:k ≤ l.length) (i:Nat):(((l.take k) ++ [e]) ++ l.drop k).getD i default = if i < k then l.getD i default else if i = k then e else l.getD (i - 1) default:=by
  have hlen:(l.take k).length = k:=by simp; omega
  rw [List.append_assoc]
  by_cases c:i < k
  · rw [if_pos c,List.getD_eq_getElem?_getD,List.getD_eq_getElem?_getD,List.getElem?_append_left (by omega),List.getElem?_take_of_lt c]
  · rw [if_neg c,List.getD_eq_getElem?_getD,List.getElem?_append_right (by omega),hlen]
    by_cases c2:i = k
    · subst c2; rw [if_pos rfl,Nat.sub_self]; rfl
    · rw [if_neg c2]
      obtain ⟨j,rfl⟩:∃ j,i = k + (j + 1):=⟨i - k - 1,by omega⟩
      rw [show k + (j + 1) - k = j + 1 by omega]
      show ((l.drop k)[j]?).getD default = _
      rw [List.getElem?_drop,List.getD_eq_getElem?_getD,show k + (j + 1) - 1 = k + j by omega]
theorem nP {l:List AA} {e:AA} (hg:CZ l = true) (he:Mp e = true) {k:Nat} (hk:k ≤ l.length) (h1:k < l.length → DM e (l.getD k default) = true) (h2:0 < k → DM (l.getD (k - 1) default) e = true) :
    CZ (((l.take k) ++ [e]) ++ l.drop k) = true:=by
  have hat:∀ i,i < l.length → Mp (l.getD i default) = true ∧ (0 < i → DM (l.getD (i - 1) default) (l.getD i default) = true):=by
    intro i hi
    unfold CZ at hg
    have:=KR hg hi
    unfold pR at this
    simp only [Bool.and_eq_true,Bool.not_eq_true',Bool.and_eq_false_iff,decide_eq_false_iff_not,Bool.not_eq_false'] at this
    exact ⟨this.1,fun h0 => this.2.elim (fun c => absurd h0 c) id⟩
  unfold CZ
  rw [List.all_eq_true]
  intro i hi
  have hi':i < l.length + 1:=by
    have:(((l.take k) ++ [e]) ++ l.drop k).length = l.length + 1:=by simp; omega
    rw [this] at hi; simpa using hi
  have okmk:∀ A B:Bool,A = true → (0 < i → B = true) → (A && !(decide (0 < i) && !B)) = true:=by
    intro A B hA hB
    rw [hA,Bool.true_and]
    by_cases c:0 < i
    · rw [hB c]; simp
    · simp [c]
  unfold pR
  rw [dj l e hk,dj l e hk]
  refine okmk _ _ ?_ (fun h0 => ?_)
  · by_cases c:i < k
    · rw [if_pos c]; exact (hat i (by omega)).1
    · rw [if_neg c]
      by_cases c2:i = k
      · rw [if_pos c2]; exact he
      · rw [if_neg c2]; exact (hat (i - 1) (by omega)).1
  · by_cases c:i < k
    · rw [if_pos (show i - 1 < k by omega),if_pos c]; exact (hat i (by omega)).2 h0
    · rw [if_neg c]
      by_cases c2:i = k
      · rw [if_pos c2,if_pos (show i - 1 < k by omega),c2]; exact h2 (by omega)
      · rw [if_neg c2]
        by_cases c3:i - 1 = k
        · rw [if_neg (show ¬ i - 1 < k by omega),if_pos c3,c3]; exact h1 (by omega)
        · rw [if_neg (show ¬ i - 1 < k by omega),if_neg c3]
          exact (hat (i - 1) (by omega)).2 (by omega)
theorem ZW {l:List AA} {e:AA} (hl:l.length ≤ 1000) (hg:CZ l = true) (he:Mp e = true) (hf:∀ i,i < l.length → yH (l.getD i default) e = false) :
    ∃ l',IB l e = some l' ∧ CZ l' = true ∧ l'.length = l.length + 1:=by
  obtain ⟨k,hk,hw,h1,h2⟩:=TA hl e l.length (Nat.le_refl _) (fun h => by omega)
  refine ⟨((l.take k) ++ [e]) ++ l.drop k,?_,nP hg he hk h1 (fun h0 => ?_),by simp; omega⟩
  · unfold IB
    rw [hw]
    simp only [Option.bind_some]
    rw [FH (by omega) (by omega) (by omega),AH,Bf (by simp [cut]; omega),AH,Bf (by simp [cut]; omega),AH,FH (by omega) (by omega) (by omega),AH,Bf (by simp [cut]; omega),AH]
    simp [cut]
  · have:=hf (k - 1) (by omega)
    unfold yH at this
    rw [h2 h0] at this
    simpa using this
theorem gF:∀ i:Fin 3,IG (([[109,105,114,97],[114,114,45,108,121,114],[115,115,45,99,121,103]]:List (List UInt8)).getD i.val default) = true:=by decide +kernel
theorem dp:∀ i:Fin 3,IG (([[97,98],[99,100],[101]]:List (List UInt8)).getD i.val default) = true:=by decide +kernel
theorem dy {l:List (List UInt8)} {n:List UInt8} (hn:n ∈ l) {m:Nat} (hm:l.length = m) (h:∀ i:Fin m,IG (l.getD i.val default) = true):IG n = true:=by
  obtain ⟨i,hi,rfl⟩:=List.getElem_of_mem hn
  have:=h ⟨i,by omega⟩
  rwa [Ch hi] at this
theorem vz {t:Int} {s o:List UInt8} {g:Int} {f:Bool} (h1:0 ≤ t) (h2:t ≤ 10000000) (hs:IG s = true) (ho:IG o = true) (h3:-2000 ≤ g) (h4:g ≤ 20000):Mp ⟨t,s,o,g,f⟩ = true:=by
  unfold Mp
  simp only [hs,ho,Bool.and_true,Bool.and_eq_true,decide_eq_true_eq]
  exact ⟨⟨h1,h2⟩,h3,h4⟩
theorem ZY {m:Nat} {s:AQ} (h:Ci (m + 20) s):∃ e s',ID s = some (e,s') ∧ Mp e = true ∧ Ci m s':=by
  unfold ID
  obtain ⟨t,s1,e1,p1,q1,_,h1⟩:=Bc (m:=m + 18) h (n:=30) (by omega)
  have:=q1 (by omega)
  obtain ⟨c,s2,e2,h2⟩:=FU (m:=m + 16) h1 (n:=2) (by omega)
  simp only [e1,e2,Option.bind_some]
  have rest:∀ {m:Nat} {s:AQ} (h:Ci (m + 8) s) {t:Int} (t0:0 ≤ t) (t1:t ≤ 100000),∃ e s',((BO s ([([109,105,114,97]:List UInt8),([114,114,45,108,121,114]:List UInt8),([115,115,45,99,121,103]:List UInt8)]:List (List UInt8))).bind fun y_5 =>
    (BO y_5.2 ([([97,98]:List UInt8),([99,100]:List UInt8),([101]:List UInt8)]:List (List UInt8))).bind fun y_6 =>
    (AI y_6.2 60).bind fun y_7 =>
    (Ag y_7.2 5).bind fun y_8 =>
    some ((AA.mk t y_5.1 y_6.1 (IntKind.i64.wrap (8000 + (IntKind.i64.wrap (50 * y_7.1)))) y_8.1),y_8.2)) = some (e,s') ∧ Mp e = true ∧ Ci m s':=by
    intro m s h t t0 t1
    obtain ⟨n1,s1,e1,g1,h1⟩:=Lj (m:=m + 6) h (l:=([([109,105,114,97]:List UInt8),([114,114,45,108,121,114]:List UInt8),([115,115,45,99,121,103]:List UInt8)]:List (List UInt8))) (by decide) (by decide)
    obtain ⟨n2,s2,e2,g2,h2⟩:=Lj (m:=m + 4) h1 (l:=([([97,98]:List UInt8),([99,100]:List UInt8),([101]:List UInt8)]:List (List UInt8))) (by decide) (by decide)
    obtain ⟨v,s3,e3,p3,q3,_,h3⟩:=Bc (m:=m + 2) h2 (n:=60) (by omega)
    have:=q3 (by omega)
    obtain ⟨c,s4,e4,h4⟩:=FU (m:=m) h3 (n:=5) (by omega)
    simp only [e1,e2,e3,e4,Option.bind_some]
    rw [wrap_i64 (n:=50 * v) (by omega) (by omega),wrap_i64 (n:=8000 + 50 * v) (by omega) (by omega)]
    exact ⟨_,_,rfl,vz t0 (by omega) (dy g1 rfl gF) (dy g2 rfl dp) (by omega) (by omega),h4⟩
  rw [wrap_i64 (n:=1000 * t) (by omega) (by omega)]
  cases c
  · simp only [Bool.false_eq_true,if_false]
    obtain ⟨e,s',a1,a2,a3⟩:=rest (m:=m + 8) h2 (t:=1000 * t) (by omega) (by omega)
    exact ⟨e,s',a1,a2,a3.le (by omega)⟩
  · obtain ⟨u,s3,e3,p3,q3,_,h3⟩:=Bc (m:=m + 14) h2 (n:=3000) (by omega)
    have:=q3 (by omega)
    simp only [if_true,e3,Option.bind_some]
    rw [wrap_i64 (n:=1000 * t + u) (by omega) (by omega)]
    obtain ⟨e,s',a1,a2,a3⟩:=rest (m:=m + 6) h3 (t:=1000 * t + u) (by omega) (by omega)
    exact ⟨e,s',a1,a2,a3.le (by omega)⟩
theorem gp {m:Nat} {s:AQ} (h:Ci (m + 400) s) {most:Nat} (hmost:most ≤ 12):∃ l s',Gz s (most:Int) = some (l,s') ∧ CZ l = true ∧ l.length ≤ most ∧ Ci m s':=by
  unfold Gz
  have w13:IntKind.i64.wrap ((most:Int) + 1) = (most:Int) + 1:=wrap_i64 (by omega) (by omega)
  obtain ⟨n,s1,e1,p1,q1,_,h1⟩:=Bc (m:=m + 390) (h.le (by omega)) (n:=(most:Int) + 1) (by omega)
  have:=q1 (by omega)
  simp only [Option.bind_some,w13,e1]
  obtain ⟨y,hy,hq⟩:=ES (step:=Eo)
    (fun x => 0 ≤ x.2.2 ∧ (x.2.1.length:Int) + x.2.2 ≤ most ∧ Ci (m + 30 * x.2.2.toNat) x.1 ∧ CZ x.2.1 = true) (fun y => CZ y.2 = true ∧ y.2.length ≤ most ∧ Ci m y.1) (fun x => x.2.2.toNat) (by
    rintro ⟨s,out,k⟩ ⟨k0,k1,hs,hg⟩
    simp only at k0 k1 hs hg
    by_cases c:0 < k
    · left
      obtain ⟨e,s',e2,he,h2⟩:=ZY (m:=m + 30 * (k - 1).toNat) (hs.le (by omega))
      have w:IntKind.i64.wrap (k - 1) = k - 1:=wrap_i64 (by omega) (by omega)
      simp only [Eo,c,decide_true,if_true,e2,Option.bind_some,w]
      rw [XP (by omega)]
      cases hfd:(List.range out.length).find? (fun i => yH (out.getD i default) e) with
      | some j =>
        have:¬ (j:Int) < 0:=by omega
        simp only [Option.bind_some,this,decide_false,Bool.false_eq_true,if_false]
        exact ⟨_,rfl,⟨by show 0 ≤ k - 1; omega,by show (out.length:Int) + (k - 1) ≤ most; omega,h2,hg⟩,by show (k - 1).toNat < k.toNat; omega⟩
      | none =>
        rw [List.find?_eq_none] at hfd
        obtain ⟨l',e3,hg3,hl3⟩:=ZW (l:=out) (by omega) hg he (fun i hi => by simpa using hfd i (by simpa using hi))
        have:decide ((-1:Int) < 0) = true:=by decide
        simp only [Option.bind_some,this,if_true,e3]
        exact ⟨_,rfl,⟨by show 0 ≤ k - 1; omega,by show (l'.length:Int) + (k - 1) ≤ most; omega,h2,hg3⟩,by show (k - 1).toNat < k.toNat; omega⟩
    · right
      exact ⟨(s,out),by simp [Eo,c],hg,by show out.length ≤ most; omega,hs.le (by omega)⟩) (s:=(s1,[],n)) ⟨p1,by show ((([]:List AA).length:Nat):Int) + n ≤ most; simp; omega,h1.le (by show m + 30 * n.toNat ≤ m + 390; omega),rfl⟩
  rw [hy]
  exact ⟨y.2,y.1,rfl,hq.1,hq.2.1,hq.2.2⟩
end Go.Proofs.YtfaenphcgfocnaaGreatDoor
namespace Go.Proofs.YtfaenphcgfocnaaGreatDoor
open Go Go.RowKit
set_option linter.unusedSimpArgs false
set_option linter.unusedVariables false
theorem Oo {m:Nat} {s:AQ} (h:Ci (m + 10) s):∃ v s',Fy s = some (v,s') ∧ Ci m s':=by
  unfold Fy
  obtain ⟨b,s1,e1,h1⟩:=FU (m:=m + 8) h (n:=14) (by omega)
  rw [e1,Option.bind_some]
  cases b
  · simp only [Bool.false_eq_true,if_false]
    unfold CU
    obtain ⟨b2,s2,e2,h2⟩:=FU (m:=m + 6) h1 (n:=8) (by omega)
    rw [e2,Option.bind_some]
    cases b2
    · obtain ⟨v,s3,e3,_,_,_,h3⟩:=Bc (m:=m + 4) h2 (n:=60) (by omega)
      simp only [Bool.false_eq_true,if_false,e3,Option.bind_some]
      exact ⟨_,_,rfl,h3.le (by omega)⟩
    · obtain ⟨v,s3,e3,_,_,_,h3⟩:=Bc (m:=m + 4) h2 (n:=22001) (by omega)
      simp only [if_true,e3,Option.bind_some]
      exact ⟨_,_,rfl,h3.le (by omega)⟩
  · obtain ⟨v,s3,e3,_,h3⟩:=Gv (m:=m + 6) h1 (l:=[(-2001),(-2000),20000,20001,(-9223372036854775808),9223372036854775807]) (by simp) (by simp)
    simp only [if_true,e3,Option.bind_some]
    exact ⟨_,_,rfl,h3.le (by omega)⟩
theorem OF {m:Nat} {s:AQ} (h:Ci (m + 40) s):∃ e s',Ep s = some (e,s') ∧ Ci m s':=by
  unfold Ep
  obtain ⟨e,s1,e1,_,h1⟩:=ZY (m:=m + 20) h
  obtain ⟨v,s2,e2,_,_,_,h2⟩:=Bc (m:=m + 18) h1 (n:=24) (by omega)
  rw [e1,Option.bind_some,e2,Option.bind_some]
  split
  · obtain ⟨x,s3,e3,_,h3⟩:=Gv (m:=m + 10) (h2.le (by omega)) (l:=[(-1),0,10000000,10000001]) (by simp) (by simp)
    rw [e3]; exact ⟨_,_,rfl,h3.le (by omega)⟩
  · split
    · obtain ⟨x,s3,e3,_,h3⟩:=Lj (m:=m + 10) (h2.le (by omega)) (l:=[([]:List UInt8),([77,105,114,97]:List UInt8),([97,32,98]:List UInt8)]) (by simp) (by simp)
      rw [e3]; exact ⟨_,_,rfl,h3.le (by omega)⟩
    · split
      · obtain ⟨x,s3,e3,_,h3⟩:=Lj (m:=m + 10) (h2.le (by omega)) (l:=[([]:List UInt8),([65,66]:List UInt8)]) (by simp) (by simp)
        rw [e3]; exact ⟨_,_,rfl,h3.le (by omega)⟩
      · split
        · obtain ⟨x,s3,e3,h3⟩:=Oo (m:=m) (h2.le (by omega))
          rw [e3]; exact ⟨_,_,rfl,h3⟩
        · exact ⟨_,_,rfl,h2.le (by omega)⟩
theorem pI (s:AQ) {n:Int} (h0:0 ≤ n) (h1:n ≤ 200):∃ l,AL (Dr s) (([]:List AA),n) = some l ∧ l.length ≤ 1000:=by
  obtain ⟨y,hy,q⟩:=ES (step:=Dr s) (fun x => 0 ≤ x.2 ∧ (x.1.length:Int) + x.2 ≤ 200) (fun y => y.length ≤ 1000) (fun x => x.2.toNat) (by
    rintro ⟨l,k⟩ ⟨k0,k1⟩
    simp only at k0 k1
    by_cases c:0 < k
    · left
      simp only [Dr,c,decide_true,if_true]
      rw [Bf (by simp; omega),AH,wrap_i64 (n:=k - 1) (by omega) (by omega)]
      exact ⟨_,rfl,⟨by show 0 ≤ k - 1; omega,by show ((l ++ [_]).length:Int) + (k - 1) ≤ 200; simp; omega⟩,by show (k - 1).toNat < k.toNat; omega⟩
    · right
      exact ⟨l,by simp [Dr,c],by omega⟩) (s:=(([]:List AA),n)) ⟨h0,by simp; omega⟩
  exact ⟨y,hy,q⟩
theorem gq {m:Nat} {s:AQ} (h:Ci (m + 1000) s):∃ l s',Ia s = some (l,s') ∧ l.length ≤ 1000 ∧ Ci m s':=by
  unfold Ia
  obtain ⟨l,s1,e1,_,hl,h1⟩:=gp (m:=m + 600) h (most:=10) (by omega)
  have e1':Gz s 10 = some (l,s1):=e1
  obtain ⟨v,s2,e2,_,_,_,h2⟩:=Bc (m:=m + 500) (h1.le (by omega)) (n:=20) (by omega)
  rw [e1',Option.bind_some,e2,Option.bind_some]
  simp only
  split
  · obtain ⟨e,s3,e3,h3⟩:=OF (m:=m + 400) (h2.le (by omega))
    rw [e3,Option.bind_some,Bf (by simp; omega),AH]
    exact ⟨_,_,rfl,by simp; omega,h3.le (by omega)⟩
  · split
    · obtain ⟨u,s3,e3,u0,u1,_,h3⟩:=Bc (m:=m + 400) (h2.le (by omega)) (n:=2) (by omega)
      have u2:=u1 (by omega)
      rw [e3,Option.bind_some,wrap_i64 (n:=100 + u) (by omega) (by omega)]
      obtain ⟨y,hy,hyl⟩:=pI s3 (n:=100 + u) (by omega) (by omega)
      simp only
      rw [hy]
      exact ⟨_,_,rfl,hyl,h3.le (by omega)⟩
    · split
      · split
        · rename_i hp
          have hp:0 < (l.length:Int):=by simpa using hp
          obtain ⟨u,s3,e3,u0,u1,_,h3⟩:=Bc (m:=m + 400) (h2.le (by omega)) (n:=(l.length:Int)) (by omega)
          have u2:=u1 (by omega)
          obtain ⟨e,s4,e4,h4⟩:=OF (m:=m + 300) (h3.le (by omega))
          rw [e3,Option.bind_some,e4,Option.bind_some,GA u0 (by omega),AH]
          exact ⟨_,_,rfl,by rw [List.length_set]; omega,h4.le (by omega)⟩
        · exact ⟨_,_,rfl,by show l.length ≤ 1000; omega,h2.le (by omega)⟩
      · exact ⟨_,_,rfl,by show l.length ≤ 1000; omega,h2.le (by omega)⟩
end Go.Proofs.YtfaenphcgfocnaaGreatDoor
namespace Go.Proofs.YtfaenphcgfocnaaGreatDoor
open Go Go.RowKit
set_option linter.unusedSimpArgs false
set_option linter.unusedVariables false
theorem eH {m:Nat} {s:AQ} (h:Ci (m + 6) s) {t:List UInt8} (ht:t.length ≤ 1000000):∃ l s',He s t = some (l,s') ∧ l.length ≤ t.length + 1:=by
  unfold He
  obtain ⟨v,s1,e1,v0,v1,_,h1⟩:=Bc (m:=m + 4) h (n:=5) (by omega)
  simp only [e1,Option.bind_some]
  by_cases c0:(v == 0) = true
  · have w:IntKind.i64.wrap ((t.length:Int) + 1) = (t.length:Int) + 1:=wrap_i64 (by omega) (by omega)
    obtain ⟨a,s2,e2,a0,a1,_,h2⟩:=Bc (m:=m + 2) h1 (n:=(t.length:Int) + 1) (by omega)
    have a2:=a1 (by omega)
    obtain ⟨x,s3,e3,hx,_⟩:=Lj (m:=m) h2 (l:=[([32]:List UInt8),([48]:List UInt8),([45]:List UInt8),([120]:List UInt8),([49]:List UInt8),([57]:List UInt8),([46]:List UInt8)]) (by simp) (by simp)
    have hx1:x.length = 1:=by
      simp only [List.mem_cons,List.not_mem_nil,or_false] at hx
      rcases hx with rfl | rfl | rfl | rfl | rfl | rfl | rfl <;> rfl
    have l1:(cut t 0 a).length ≤ a.toNat:=by simp [cut]; omega
    have l2:(cut t a (t.length:Int)).length ≤ t.length - a.toNat:=by simp [cut]
    simp only [c0,if_true,w,e2,e3,Option.bind_some]
    rw [FH (by omega) a0 (by omega),AH,uK (show IJ _ _ = true by simp [IJ]; omega),FH a0 (by omega) (by omega),AH,uK (show IJ _ _ = true by simp only [IJ,List.length_append]; simp; omega)]
    exact ⟨_,_,rfl,by simp only [List.length_append]; omega⟩
  · by_cases c1:(v == 1) = true
    · by_cases ct:t = []
      · subst ct
        simp only [c0,c1,if_true]
        exact ⟨_,_,rfl,by simp⟩
      · have hb:(!(t == ([]:List UInt8))) = true:=by simpa using ct
        have hp:0 < t.length:=by cases t with | nil => exact absurd rfl ct | cons => simp
        obtain ⟨a,s2,e2,a0,a1,_,h2⟩:=Bc (m:=m + 2) h1 (n:=(t.length:Int)) (by omega)
        have a2:=a1 (by omega)
        have w:IntKind.i64.wrap (a + 1) = a + 1:=wrap_i64 (by omega) (by omega)
        have l1:(cut t 0 a).length ≤ a.toNat:=by simp [cut]; omega
        have l2:(cut t (a + 1) (t.length:Int)).length ≤ t.length - (a + 1).toNat:=by simp [cut]
        simp only [c0,c1,hb,if_true,if_false,Bool.false_eq_true,e2,Option.bind_some,w]
        rw [FH (by omega) a0 (by omega),AH,FH (by omega) (by omega) (by omega),AH,uK (show IJ _ _ = true by simp [IJ]; omega)]
        exact ⟨_,_,rfl,by simp only [List.length_append]; omega⟩
    · simp only [c0,c1,if_false,Bool.false_eq_true]
      exact ⟨_,_,rfl,by omega⟩
end Go.Proofs.YtfaenphcgfocnaaGreatDoor
namespace Go.Proofs.YtfaenphcgfocnaaGreatDoor
open Go Go.RowKit
set_option linter.unusedSimpArgs false
set_option linter.unusedVariables false
def GY (x:Observer):Prop:=x.Name.length ≤ 1000 ∧ Yv x.Shift
theorem kS {l:List Observer} (h:∀ x ∈ l,GY x) {i:Nat} (hi:i < l.length):GY (l.getD i default):=h _ (LW hi default)
theorem ZJ {l:List Observer} (h:∀ x ∈ l,GY x) (i:Nat) {v:Observer} (hv:GY v):∀ x ∈ l.set i v,GY x:=by
  intro x hx
  rcases List.mem_or_eq_of_mem_set hx with a | a
  · exact h x a
  · rw [a]; exact hv
theorem ZK {l:List Observer} (h:∀ x ∈ l,GY x) {v:Observer} (hv:GY v):∀ x ∈ l ++ [v],GY x:=by
  intro x hx
  rcases List.mem_append.1 hx with a | a
  · exact h x a
  · rw [List.mem_singleton.1 a]; exact hv
theorem dI {x:List UInt8} {l:List (List UInt8)} (h:x ∈ l) (hl:l.all (fun y => decide (y.length ≤ 1000)) = true):x.length ≤ 1000:=by
  have:=List.all_eq_true.1 hl x h
  exact of_decide_eq_true this
theorem iS {m:Nat} {s:AQ} (ns:List (List UInt8)) (hn:ns.length = 6) (hns:ns.all (fun y => decide (y.length ≤ 1000)) = true) (h:Ci (m + 200) s):∃ l s',AL (Ds ns) (s,([]:List Observer),0) = some (s',l) ∧ l.length ≤ 6 ∧ (∀ x ∈ l,GY x) ∧ Ci m s':=by
  obtain ⟨y,hy,hq⟩:=ES (step:=Ds ns) (fun x => ∃ k:Nat,x.2.2 = (k:Int) ∧ k ≤ 6 ∧ x.2.1.length ≤ k ∧ (∀ o ∈ x.2.1,GY o) ∧ Ci (m + 4 * (6 - k)) x.1) (fun y => y.2.length ≤ 6 ∧ (∀ o ∈ y.2,GY o) ∧ Ci m y.1) (fun x => 6 - x.2.2.toNat) (by
    rintro ⟨s,l,i⟩ ⟨k,rfl,hk,hl,ho,hs⟩
    simp only at hl ho hs
    by_cases c:k < 6
    · have c':(k:Int) < (ns.length:Int):=by omega
      obtain ⟨b,s1,e1,h1⟩:=FU (m:=m + 4 * (6 - (k + 1)) + 2) (hs.le (by omega)) (n:=3) (by omega)
      simp only [Ds,c',decide_true,if_true,e1,Option.bind_some,Ar (show k < 9223372036854775807 by omega)]
      left
      cases b
      · simp only [Bool.false_eq_true,if_false]
        obtain ⟨v,s2,e2,v0,v1,_,h2⟩:=Bc (m:=m + 4 * (6 - (k + 1))) h1 (n:=60) (by omega)
        have v2:=v1 (by omega)
        rw [GA (by omega) (by omega),AH,Int.toNat_natCast,e2,Option.bind_some,Bf (by simp; omega),AH]
        exact ⟨_,rfl,⟨k + 1,rfl,by omega,by simp; omega,ZK ho ⟨dI (LW (by omega) default) hns,ao _⟩,h2⟩,by simp only [Int.toNat_natCast]; omega⟩
      · simp only [if_true]
        exact ⟨_,rfl,⟨k + 1,rfl,by omega,by simp only; omega,ho,h1.le (by omega)⟩,by simp only [Int.toNat_natCast]; omega⟩
    · right
      have c':¬ (k:Int) < (ns.length:Int):=by omega
      exact ⟨(s,l),by simp [Ds,c'],by simp only; omega,ho,hs.le (by omega)⟩) (s:=(s,([]:List Observer),0)) ⟨0,rfl,by omega,by simp,by simp,h.le (by omega)⟩
  exact ⟨y.2,y.1,hy,hq.1,hq.2.1,hq.2.2⟩
theorem gt {m:Nat} {s:AQ} (h:Ci (m + 200) s):∃ l s',Ib s = some (l,s') ∧ l.length ≤ 6 ∧ (∀ x ∈ l,GY x) ∧ Ci m s':=by
  unfold Ib JU
  obtain ⟨l,s',e,a,b,c⟩:=iS ([([97,98]:List UInt8),([99,100,45,49]:List UInt8),([101,118,101]:List UInt8),([107,105,109]:List UInt8),([108,111,117]:List UInt8),([122,101,100]:List UInt8)]:List (List UInt8)) (by rfl) (by decide) h
  rw [Option.bind_some,e]
  exact ⟨l,s',rfl,a,b,c⟩
theorem ip (s:AQ) {n:Int} (h0:0 ≤ n) (h1:n ≤ 42):∃ l,AL (Dt s) (([]:List Observer),n) = some l ∧ l.length ≤ 42 ∧ ∀ x ∈ l,GY x:=by
  obtain ⟨y,hy,q⟩:=ES (step:=Dt s) (fun x => 0 ≤ x.2 ∧ (x.1.length:Int) + x.2 ≤ 42 ∧ ∀ o ∈ x.1,GY o) (fun y => y.length ≤ 42 ∧ ∀ o ∈ y,GY o) (fun x => x.2.toNat) (by
    rintro ⟨l,k⟩ ⟨k0,k1,ho⟩
    simp only at k0 k1 ho
    by_cases c:0 < k
    · left
      simp only [Dt,c,decide_true,if_true]
      rw [Pp (by omega),AH,KP (by simp),AH,Bf (by simp; omega),AH,wrap_i64 (n:=k - 1) (by omega) (by omega)]
      exact ⟨_,rfl,⟨by show 0 ≤ k - 1; omega,by show ((l ++ [_]).length:Int) + (k - 1) ≤ 42; simp; omega,ZK ho ⟨by simp,by constructor <;> (show _ ≤ _; simp only; omega)⟩⟩,by show (k - 1).toNat < k.toNat; omega⟩
    · right
      exact ⟨l,by simp [Dt,c],by omega,ho⟩) (s:=(([]:List Observer),n)) ⟨h0,by simp; omega,by simp⟩
  exact ⟨y,hy,q⟩
theorem YP {m:Nat} {s:AQ} (h:Ci (m + 40) s) {l:List Observer} (hl:l.length ≤ 42) (ho:∀ x ∈ l,GY x):∃ l' s',(if ((l.length:Int) == 0) then
      some (l,s)
    else
      (AI s (l.length:Int)).bind fun y_11 =>
      ck (BA y_11.1 l.length) <|
      (AI y_11.2 16).bind fun y_13 =>
      if (y_13.1 == 0) then
        (BO y_13.2 ([([]:List UInt8),([65,98]:List UInt8),([97,98]:List UInt8),([122,122]:List UInt8)]:List (List UInt8))).bind fun y_15 =>
        some ((l.set y_11.1.toNat (Observer.mk y_15.1 ((l.getD y_11.1.toNat default).Shift))),y_15.2)
      else
        if (y_13.1 == 1) then
          (BH y_13.2 ([(-2001),(-2000),0,2000,2001,(-9223372036854775808)]:List Int)).bind fun y_17 =>
          some ((l.set y_11.1.toNat (Observer.mk ((l.getD y_11.1.toNat default).Name) y_17.1)),y_17.2)
        else
          some (l,y_13.2)) = some (l',s') ∧ l'.length ≤ 42 ∧ (∀ x ∈ l',GY x) ∧ Ci m s':=by
  split
  · exact ⟨_,_,rfl,hl,ho,h.le (by omega)⟩
  · rename_i hz
    have hp:0 < l.length:=by
      rcases Nat.eq_zero_or_pos l.length with a | a
      · exact absurd (by simp [a]) hz
      · exact a
    obtain ⟨u,s1,e1,u0,u1,_,h1⟩:=Bc (m:=m + 38) h (n:=(l.length:Int)) (by omega)
    have u2:=u1 (by omega)
    have hu:u.toNat < l.length:=by omega
    have hg:=kS ho hu
    obtain ⟨v,s2,e2,_,_,_,h2⟩:=Bc (m:=m + 36) h1 (n:=16) (by omega)
    rw [e1,Option.bind_some]
    simp only
    rw [GA u0 u2,AH,e2,Option.bind_some]
    simp only
    split
    · obtain ⟨x,s3,e3,hx,h3⟩:=Lj (m:=m + 30) (h2.le (by omega)) (l:=[([]:List UInt8),([65,98]:List UInt8),([97,98]:List UInt8),([122,122]:List UInt8)]) (by simp) (by simp)
      rw [e3]
      exact ⟨_,_,rfl,by simp only [List.length_set]; exact hl,ZJ ho _ ⟨dI hx (by decide),hg.2⟩,h3.le (by omega)⟩
    · split
      · obtain ⟨x,s3,e3,hx,h3⟩:=Gv (m:=m + 30) (h2.le (by omega)) (l:=[(-2001),(-2000),0,2000,2001,(-9223372036854775808)]) (by simp) (by simp)
        rw [e3]
        refine ⟨_,_,rfl,by simp only [List.length_set]; exact hl,ZJ ho _ ⟨hg.1,?_⟩,h3.le (by omega)⟩
        simp only [List.mem_cons,List.not_mem_nil,or_false] at hx
        show Yv x
        rcases hx with rfl | rfl | rfl | rfl | rfl | rfl <;> exact ⟨by decide,by decide⟩
      · exact ⟨_,_,rfl,hl,ho,h2.le (by omega)⟩
theorem gu {m:Nat} {s:AQ} (h:Ci (m + 1000) s):∃ l s',HC s = some (l,s') ∧ l.length ≤ 42 ∧ (∀ x ∈ l,GY x) ∧ Ci m s':=by
  unfold HC
  obtain ⟨l,s1,e1,hl,ho,h1⟩:=gt (m:=m + 800) (h.le (by omega))
  obtain ⟨b,s2,e2,h2⟩:=FU (m:=m + 700) (h1.le (by omega)) (n:=24) (by omega)
  rw [e1,Option.bind_some]
  simp only
  rw [e2,Option.bind_some]
  simp only
  split
  · obtain ⟨u,s3,e3,u0,u1,_,h3⟩:=Bc (m:=m + 600) (h2.le (by omega)) (n:=2) (by omega)
    have u2:=u1 (by omega)
    rw [e3,Option.bind_some,wrap_i64 (n:=40 + u) (by omega) (by omega)]
    obtain ⟨q,e4,hq,hqo⟩:=ip s3 (n:=40 + u) (by omega) (by omega)
    simp only
    rw [e4,Option.bind_some]
    exact YP (h3.le (by omega)) hq hqo
  · exact YP (h2.le (by omega)) (by omega) ho
end Go.Proofs.YtfaenphcgfocnaaGreatDoor
namespace Go.Proofs.YtfaenphcgfocnaaGreatDoor
open Go Go.RowKit
set_option linter.unusedSimpArgs false
set_option linter.unusedVariables false
theorem ZZ (a b:Int):∃ v,Cv a b = some v ∧ v ≤ a ∧ v ≤ b ∧ (v = a ∨ v = b):=by
  unfold Cv
  split
  · rename_i h; have:a < b:=by simpa using h
    exact ⟨_,rfl,by omega,by omega,by omega⟩
  · rename_i h; have:¬ a < b:=by simpa using h
    exact ⟨_,rfl,by omega,by omega,by omega⟩
theorem eD {m:Nat} {s:AQ} (h:Ci (m + 110) s) {c:Int} (c0:0 ≤ c) (c1:c ≤ 100000):∃ l s',IZ s c = some (l,s') ∧ l.length ≤ 24 ∧ Ci m s':=by
  obtain ⟨mn,hmn,m1,m2,m3⟩:=ZZ c 12
  have app:∀ (l:List AJ) (x:AJ),l.length ≤ 100 → BW (l.length + ([x]:List AJ).length) 16 = true:=fun l x hl => Bf (by simp; omega)
  have fin:∀ (l:List AJ),l.length ≤ 100 → ∃ b,CH l c = some b:=fun l hl => ⟨_,HI c0 (by omega) (by omega)⟩
  have cutk:∀ (l:List AJ),1 ≤ l.length → l.length ≤ 100 → FI 0 (IntKind.i64.wrap ((l.length:Int) - 1)) l.length = true ∧ (l.take (IntKind.i64.wrap ((l.length:Int) - 1)).toNat).length ≤ l.length:=fun l h1 h2 => by
    rw [wrap_i64 (by omega) (by omega)]
    exact ⟨FH (by omega) (by omega) (by omega),by rw [List.length_take]; omega⟩
  obtain ⟨y,hy,q⟩:=ES (step:=El c) (fun x => ∃ I:Nat,x.2.2 = (I:Int) ∧ I ≤ 12 ∧ Ci (m + 12 + 8 * (12 - I)) x.1 ∧ x.2.1.length ≤ 2 * I) (fun y => Ci (m + 12) y.1 ∧ y.2.length ≤ 24) (fun x => (12 - x.2.2).toNat) (by
    rintro ⟨s,out,i⟩ ⟨I,rfl,hI,hs,hl⟩
    simp only at hs hl
    by_cases hk':(I:Int) < mn
    · have hk:I < 12:=by omega
      left
      obtain ⟨b1,s1,e1,h1⟩:=FU (m:=m + 12 + 8 * (12 - (I + 1)) + 6) (hs.le (by omega)) (n:=3) (by omega)
      simp only [El,hmn,Option.bind_some,hk',decide_true,if_true,e1,Ar (show I < 9223372036854775807 by omega)]
      cases b1
      · obtain ⟨b2,s2,e2,h2⟩:=FU (m:=m + 12 + 8 * (12 - (I + 1)) + 4) h1 (n:=8) (by omega)
        simp only [Bool.false_eq_true,if_false,e2,Option.bind_some]
        cases b2
        · simp only [Bool.false_eq_true,if_false]
          exact ⟨_,rfl,⟨I + 1,rfl,by omega,h2.le (by omega),by simp only; omega⟩,by simp only; omega⟩
        · obtain ⟨v,s3,e3,_,_,_,h3⟩:=Bc (m:=m + 12 + 8 * (12 - (I + 1)) + 2) h2 (n:=5) (by omega)
          simp only [if_true,e3,Option.bind_some]
          rw [app _ _ (by omega),AH]
          generalize hL:out ++ ([AJ.mk (I:Int) (IntKind.i64.wrap (1 + v))]:List AJ) = L
          have hLl:L.length = out.length + 1:=by rw [← hL]; simp
          obtain ⟨b,eb⟩:=fin L (by omega)
          rw [eb]
          simp only [Option.bind_some]
          obtain ⟨c1,c2⟩:=cutk L (by omega) (by omega)
          cases b
          · simp only [Bool.not_false,if_true,c1,AH]
            exact ⟨_,rfl,⟨I + 1,rfl,by omega,h3.le (by omega),by simp only; omega⟩,by simp only; omega⟩
          · simp only [Bool.not_true,Bool.false_eq_true,if_false]
            exact ⟨_,rfl,⟨I + 1,rfl,by omega,h3.le (by omega),by simp only; omega⟩,by simp only; omega⟩
      · obtain ⟨u,s4,e4,_,_,_,h4⟩:=Bc (m:=m + 12 + 8 * (12 - (I + 1)) + 4) h1 (n:=5) (by omega)
        obtain ⟨b2,s2,e2,h2⟩:=FU (m:=m + 12 + 8 * (12 - (I + 1)) + 2) h4 (n:=8) (by omega)
        simp only [if_true,e4,e2,Option.bind_some]
        rw [app _ _ (by omega),AH]
        generalize hL0:out ++ ([AJ.mk (I:Int) (IntKind.i64.wrap (1 + u))]:List AJ) = L0
        have hLl0:L0.length = out.length + 1:=by rw [← hL0]; simp
        cases b2
        · simp only [Bool.false_eq_true,if_false]
          exact ⟨_,rfl,⟨I + 1,rfl,by omega,h2.le (by omega),by simp only; omega⟩,by simp only; omega⟩
        · obtain ⟨v,s3,e3,_,_,_,h3⟩:=Bc (m:=m + 12 + 8 * (12 - (I + 1))) h2 (n:=5) (by omega)
          simp only [if_true,e3,Option.bind_some]
          rw [app _ _ (by omega),AH]
          generalize hL:L0 ++ ([AJ.mk (I:Int) (IntKind.i64.wrap (1 + v))]:List AJ) = L
          have hLl:L.length = out.length + 2:=by rw [← hL]; simp [hLl0]
          obtain ⟨b,eb⟩:=fin L (by omega)
          rw [eb]
          simp only [Option.bind_some]
          obtain ⟨c1,c2⟩:=cutk L (by omega) (by omega)
          cases b
          · simp only [Bool.not_false,if_true,c1,AH]
            exact ⟨_,rfl,⟨I + 1,rfl,by omega,h3.le (by omega),by simp only; omega⟩,by simp only; omega⟩
          · simp only [Bool.not_true,Bool.false_eq_true,if_false]
            exact ⟨_,rfl,⟨I + 1,rfl,by omega,h3.le (by omega),by simp only; omega⟩,by simp only; omega⟩
    · right
      exact ⟨(s,out),by simp [El,hmn,hk'],hs.le (by omega),by simp only; omega⟩) (s:=(s,([]:List AJ),0)) ⟨0,rfl,by omega,h.le (by omega),by simp⟩
  obtain ⟨q1,q2⟩:=q
  unfold IZ
  rw [hy,Option.bind_some]
  by_cases hp:0 < (y.2.length:Int)
  · obtain ⟨b1,s1,e1,h1⟩:=FU (m:=m + 10) q1 (n:=10) (by omega)
    simp only [hp,decide_true,if_true,e1,Option.bind_some,Bool.true_and]
    cases b1
    · simp only [Bool.false_eq_true,if_false]
      exact ⟨_,_,rfl,q2,h1.le (by omega)⟩
    · obtain ⟨v,s2,e2,v0,v1,_,h2⟩:=Bc (m:=m + 8) h1 (n:=(y.2.length:Int)) (by omega)
      have v2:=v1 (by omega)
      obtain ⟨a,s3,e3,_,h3⟩:=Gv (m:=m + 6) h2 (l:=[0,5,6,(-1)]) (by simp) (by simp)
      simp only [if_true,e2,Option.bind_some]
      rw [GA v0 (by omega),AH,e3,Option.bind_some]
      generalize hx:y.2.getD v.toNat default = x
      obtain ⟨c,s4,e4,_,h4⟩:=Gv (m:=m + 4) h3 (l:=[x.Index,IntKind.i64.wrap (x.Index + 1),(-1),c,100]) (by simp) (by simp)
      rw [e4]
      exact ⟨_,_,rfl,by rw [List.length_set]; exact q2,h4.le (by omega)⟩
  · simp only [hp,decide_false,Bool.false_eq_true,if_false]
    exact ⟨_,_,rfl,q2,q1.le (by omega)⟩
theorem XN {m:Nat} {s:AQ} (h:Ci (m + 2000) s):∃ l s',Gy s = some (l,s') ∧ l.length ≤ 1001 ∧ Ci m s':=by
  unfold Gy
  obtain ⟨l,s1,e1,hl,h1⟩:=gq (m:=m + 1000) h
  rw [e1,Option.bind_some]
  simp only
  by_cases hp:0 < (l.length:Int)
  · obtain ⟨b,s2,e2,h2⟩:=FU (m:=m + 900) (h1.le (by omega)) (n:=2) (by omega)
    simp only [hp,decide_true,if_true,e2,Option.bind_some,Bool.true_and]
    cases b
    · simp only [Bool.false_eq_true,if_false]
      exact ⟨_,_,rfl,by omega,h2.le (by omega)⟩
    · simp only [if_true]
      obtain ⟨v,s3,e3,v0,v1,_,h3⟩:=Bc (m:=m + 800) (h2.le (by omega)) (n:=(l.length:Int)) (by omega)
      have v2:=v1 (by omega)
      obtain ⟨u,s4,e4,u0,u1,_,h4⟩:=Bc (m:=m + 700) (h3.le (by omega)) (n:=120) (by omega)
      rw [e3,Option.bind_some]
      simp only
      rw [GA v0 (by omega),AH,e4,Option.bind_some]
      simp only
      generalize (AA.mk (IntKind.i64.wrap (((l.getD v.toNat default).Time) + u)) ((l.getD v.toNat default).Star) ((l.getD v.toNat default).Observer) ((l.getD v.toNat default).Mag) ((l.getD v.toNat default).Fainter)) = e
      obtain ⟨z,hz,hzn⟩:∃ z,EC l e = some z ∧ (z < 0 → ∀ i,i < l.length → yH (l.getD i default) e = false):=by
        refine ⟨_,XP (by omega) e,?_⟩
        cases hq:(List.range l.length).find? (fun i => yH (l.getD i default) e) with
        | none =>
          intro _ i hi
          have:=List.find?_eq_none.1 hq i (List.mem_range.2 hi)
          simpa using this
        | some j =>
          intro c2
          have c2':((j:Nat):Int) < 0:=c2
          omega
      rw [ZX,Option.bind_some,hz,XO (by omega)]
      simp only [Option.isSome_some,Option.getD_some,Bool.or_true,AH]
      split
      · rename_i hc
        simp only [Bool.and_eq_true,decide_eq_true_eq] at hc
        obtain ⟨⟨⟨c1,c2⟩,c3,c4⟩,c5⟩:=hc
        have hf:=hzn c2
        obtain ⟨l',e5,_,hl'⟩:=ZW (by omega) c3 c1 hf
        rw [e5,Option.bind_some]
        exact ⟨_,_,rfl,by show l'.length ≤ 1001; omega,h4.le (by omega)⟩
      · exact ⟨_,_,rfl,by omega,h4.le (by omega)⟩
  · simp only [hp,decide_false,Bool.false_eq_true,if_false]
    exact ⟨_,_,rfl,by omega,h1.le (by omega)⟩
theorem wE (a b:Int):∃ v,Cv a b = some v:=by
  obtain ⟨v,e,_⟩:=ZZ a b
  exact ⟨v,e⟩
theorem eG {m:Nat} {s:AQ} (h:Ci (m + 4) s):∃ v s',CU s = some (v,s') ∧ Ci m s':=by
  unfold CU
  obtain ⟨b2,s2,e2,h2⟩:=FU (m:=m + 2) h (n:=8) (by omega)
  rw [e2,Option.bind_some]
  cases b2
  · obtain ⟨v,s3,e3,_,_,_,h3⟩:=Bc (m:=m) h2 (n:=60) (by omega)
    simp only [Bool.false_eq_true,if_false,e3,Option.bind_some]
    exact ⟨_,_,rfl,h3⟩
  · obtain ⟨v,s3,e3,_,_,_,h3⟩:=Bc (m:=m) h2 (n:=22001) (by omega)
    simp only [if_true,e3,Option.bind_some]
    exact ⟨_,_,rfl,h3⟩
theorem gv {m:Nat} {s:AQ} (h:Ci (m + 30) s) (n:List UInt8):∃ x s',Jd s n = some (x,s') ∧ Ci m s':=by
  have tail:∀ {k:Nat} {s:AQ},Ci (k + 6) s → ∀ (f:Int → Int → Int → Star),∃ x s',((CU s).bind fun y_9 => (AI y_9.2 40).bind fun y_10 => (Cv 20000 (IntKind.i64.wrap (y_9.1 + (IntKind.i64.wrap (100 * y_10.1))))).bind fun y_11 => some (f y_9.1 y_10.1 y_11,y_10.2)) = some (x,s') ∧ Ci k s':=by
    intro k s h f
    obtain ⟨a,s1,e1,h1⟩:=eG (m:=k + 2) h
    obtain ⟨b,s2,e2,_,_,_,h2⟩:=Bc (m:=k) h1 (n:=40) (by omega)
    rw [e1,Option.bind_some]
    simp only
    rw [e2,Option.bind_some]
    simp only
    obtain ⟨v,ev⟩:=wE 20000 (IntKind.i64.wrap (a + (IntKind.i64.wrap (100 * b))))
    rw [ev]
    exact ⟨_,_,rfl,h2⟩
  unfold Jd
  obtain ⟨a,s1,e1,_,_,_,h1⟩:=Bc (m:=m + 28) h (n:=86400) (by omega)
  obtain ⟨b,s2,e2,h2⟩:=FU (m:=m + 26) h1 (n:=3) (by omega)
  rw [e1,Option.bind_some]
  simp only
  rw [e2,Option.bind_some]
  have mid:∀ {s:AQ},Ci (m + 20) s → ∀ (A:Int),∃ x s',((AI s 648001).bind fun y_15 =>
    (Ag y_15.2 3).bind fun y_16 =>
    if y_16.1 then
      (AI y_16.2 9).bind fun y_18 =>
      (CU y_18.2).bind fun y_19 =>
      (AI y_19.2 40).bind fun y_20 =>
      (Cv 20000 (IntKind.i64.wrap (y_19.1 + (IntKind.i64.wrap (100 * y_20.1))))).bind fun y_21 =>
      some ((Star.mk n A (IntKind.i64.wrap (3600 * (IntKind.i64.wrap (y_18.1 - 4)))) y_19.1 y_21),y_20.2)
    else
      (CU y_16.2).bind fun y_22 =>
      (AI y_22.2 40).bind fun y_23 =>
      (Cv 20000 (IntKind.i64.wrap (y_22.1 + (IntKind.i64.wrap (100 * y_23.1))))).bind fun y_24 =>
      some ((Star.mk n A (IntKind.i64.wrap (y_15.1 - 324000)) y_22.1 y_24),y_23.2)) = some (x,s') ∧ Ci m s':=by
    intro s h A
    obtain ⟨c,s3,e3,_,_,_,h3⟩:=Bc (m:=m + 18) h (n:=648001) (by omega)
    obtain ⟨d,s4,e4,h4⟩:=FU (m:=m + 16) h3 (n:=3) (by omega)
    rw [e3,Option.bind_some]
    simp only
    rw [e4,Option.bind_some]
    cases d
    · simp only [Bool.false_eq_true,if_false]
      exact tail (k:=m) (h4.le (by omega)) (fun p q r => Star.mk n A (IntKind.i64.wrap (c - 324000)) p r)
    · simp only [if_true]
      obtain ⟨g,s5,e5,_,_,_,h5⟩:=Bc (m:=m + 14) h4 (n:=9) (by omega)
      rw [e5,Option.bind_some]
      exact tail (k:=m) (h5.le (by omega)) (fun p q r => Star.mk n A (IntKind.i64.wrap (3600 * (IntKind.i64.wrap (g - 4)))) p r)
  cases b
  · simp only [Bool.false_eq_true,if_false]
    exact mid (h2.le (by omega)) a
  · simp only [if_true]
    obtain ⟨v,s3,e3,_,h3⟩:=Gv (m:=m + 24) h2 (l:=[0,10,100,86300,86399]) (by simp) (by simp)
    rw [e3,Option.bind_some]
    exact mid (h3.le (by omega)) v
theorem eF {m:Nat} {s:AQ} (h:Ci (m + 400) s):∃ l s',Id s = some (l,s') ∧ l.length ≤ 6 ∧ Ci m s':=by
  unfold Id JV
  rw [Option.bind_some]
  generalize hns:([([98,101,116,97,45,108,121,114]:List UInt8),([100,101,108,45,99,101,112]:List UInt8),([109,105,114,97]:List UInt8),([114,45,99,114,98]:List UInt8),([114,114,45,108,121,114]:List UInt8),([115,115,45,99,121,103]:List UInt8)]:List (List UInt8)) = ns
  have hn:ns.length = 6:=by rw [← hns]; rfl
  obtain ⟨y,hy,hq⟩:=ES (step:=Et ns) (fun x => ∃ k:Nat,x.2.2 = (k:Int) ∧ k ≤ 6 ∧ x.2.1.length ≤ k ∧ Ci (m + 40 * (6 - k)) x.1) (fun y => y.2.length ≤ 6 ∧ Ci m y.1) (fun x => 6 - x.2.2.toNat) (by
    rintro ⟨s,l,i⟩ ⟨k,rfl,hk,hl,hs⟩
    simp only at hl hs
    by_cases c:k < 6
    · have c':(k:Int) < (ns.length:Int):=by omega
      obtain ⟨b,s1,e1,h1⟩:=FU (m:=m + 40 * (6 - (k + 1)) + 38) (hs.le (by omega)) (n:=2) (by omega)
      simp only [Et,c',decide_true,if_true,e1,Option.bind_some,Ar (show k < 9223372036854775807 by omega)]
      left
      cases b
      · simp only [Bool.false_eq_true,if_false]
        exact ⟨_,rfl,⟨k + 1,rfl,by omega,by simp only; omega,h1.le (by omega)⟩,by simp only [Int.toNat_natCast]; omega⟩
      · simp only [if_true]
        obtain ⟨x,s2,e2,h2⟩:=gv (m:=m + 40 * (6 - (k + 1))) (h1.le (by omega)) (ns.getD k default)
        rw [GA (by omega) (by omega),AH,Int.toNat_natCast,e2,Option.bind_some,Bf (by simp; omega),AH]
        exact ⟨_,rfl,⟨k + 1,rfl,by omega,by simp; omega,h2⟩,by simp only [Int.toNat_natCast]; omega⟩
    · right
      have c':¬ (k:Int) < (ns.length:Int):=by omega
      exact ⟨(s,l),by simp [Et,c'],by simp only; omega,hs.le (by omega)⟩) (s:=(s,([]:List Star),0)) ⟨0,rfl,by omega,by simp,h.le (by omega)⟩
  rw [hy]
  exact ⟨y.2,y.1,rfl,hq.1,hq.2⟩
theorem im (s:AQ) {n:Int} (h0:0 ≤ n) (h1:n ≤ 62):∃ l,AL (Du s) (([]:List Star),n) = some l ∧ l.length ≤ 62:=by
  obtain ⟨y,hy,q⟩:=ES (step:=Du s) (fun x => 0 ≤ x.2 ∧ (x.1.length:Int) + x.2 ≤ 62) (fun y => y.length ≤ 62) (fun x => x.2.toNat) (by
    rintro ⟨l,k⟩ ⟨k0,k1⟩
    simp only at k0 k1
    by_cases c:0 < k
    · left
      simp only [Du,c,decide_true,if_true]
      rw [Pp (by omega),AH,KP (by simp),AH,Bf (by simp; omega),AH,wrap_i64 (n:=k - 1) (by omega) (by omega)]
      exact ⟨_,rfl,⟨by show 0 ≤ k - 1; omega,by show ((l ++ [_]).length:Int) + (k - 1) ≤ 62; simp; omega⟩,by show (k - 1).toNat < k.toNat; omega⟩
    · right
      exact ⟨l,by simp [Du,c],by omega⟩) (s:=(([]:List Star),n)) ⟨h0,by simp; omega⟩
  exact ⟨y,hy,q⟩
theorem eE {m:Nat} {s:AQ} (h:Ci (m + 20) s) {l:List Star} {i:Int} (i0:0 ≤ i) (i1:i < l.length):∃ s' l',DD s l i = some (s',l') ∧ l'.length = l.length ∧ Ci m s':=by
  unfold DD
  rw [GA i0 i1,AH]
  obtain ⟨v,s1,e1,_,_,_,h1⟩:=Bc (m:=m + 18) h (n:=5) (by omega)
  rw [e1,Option.bind_some]
  have hset:∀ x:Star,((l.set i.toNat x).length == l.length) = true:=fun x => by simp
  have hlen:∀ x:Star,(l.set i.toNat x).length = l.length:=fun x => by simp
  simp only
  split
  · obtain ⟨x,s2,e2,_,h2⟩:=Lj (m:=m + 10) (h1.le (by omega)) (l:=[([]:List UInt8),([82,82]:List UInt8),([122,122]:List UInt8)]) (by simp) (by simp)
    rw [e2,Option.bind_some,hset,AH]
    exact ⟨_,_,rfl,hlen _,h2.le (by omega)⟩
  split
  · obtain ⟨x,s2,e2,_,h2⟩:=Gv (m:=m + 10) (h1.le (by omega)) (l:=[(-1),0,86399,86400]) (by simp) (by simp)
    rw [e2,Option.bind_some,hset,AH]
    exact ⟨_,_,rfl,hlen _,h2.le (by omega)⟩
  split
  · obtain ⟨x,s2,e2,_,h2⟩:=Gv (m:=m + 10) (h1.le (by omega)) (l:=[(-324001),(-324000),324000,324001]) (by simp) (by simp)
    rw [e2,Option.bind_some,hset,AH]
    exact ⟨_,_,rfl,hlen _,h2.le (by omega)⟩
  split
  · obtain ⟨x,s2,e2,h2⟩:=Oo (m:=m) (h1.le (by omega))
    rw [e2,Option.bind_some,hset,AH]
    exact ⟨_,_,rfl,hlen _,h2⟩
  split
  · obtain ⟨x,s2,e2,h2⟩:=Oo (m:=m) (h1.le (by omega))
    rw [e2,Option.bind_some,hset,AH]
    exact ⟨_,_,rfl,hlen _,h2⟩
  · exact ⟨_,_,rfl,rfl,h1.le (by omega)⟩
theorem gw {m:Nat} {s:AQ} (h:Ci (m + 1000) s):∃ l s',Ie s = some (l,s') ∧ l.length ≤ 62 ∧ Ci m s':=by
  unfold Ie
  obtain ⟨l,s1,e1,hl,h1⟩:=eF (m:=m + 600) h
  obtain ⟨b,s2,e2,h2⟩:=FU (m:=m + 500) (h1.le (by omega)) (n:=24) (by omega)
  have fin:∀ {s:AQ} {l:List Star},Ci (m + 100) s → l.length ≤ 62 → ∃ l' s',(if (decide (0 < (l.length:Int))) then
      (Ag s 10).bind fun y_11 =>
      if ((decide (0 < (l.length:Int))) && y_11.1) then
        (AI y_11.2 (l.length:Int)).bind fun y_13 =>
        ck (BA y_13.1 l.length) <|
        (DD y_13.2 l y_13.1).bind fun y_15 =>
        some (y_15.2,y_15.1)
      else
        some (l,y_11.2)
    else
      some (l,s)) = some (l',s') ∧ l'.length ≤ 62 ∧ Ci m s':=by
    intro s l h hl
    by_cases hp:0 < (l.length:Int)
    · obtain ⟨b,s3,e3,h3⟩:=FU (m:=m + 90) (h.le (by omega)) (n:=10) (by omega)
      simp only [hp,decide_true,if_true,e3,Option.bind_some,Bool.true_and]
      cases b
      · exact ⟨_,_,rfl,hl,h3.le (by omega)⟩
      · obtain ⟨v,s4,e4,v0,v1,_,h4⟩:=Bc (m:=m + 80) (h3.le (by omega)) (n:=(l.length:Int)) (by omega)
        have v2:=v1 (by omega)
        simp only [if_true]
        rw [e4,Option.bind_some]
        simp only
        rw [GA v0 (by omega),AH]
        obtain ⟨s5,l',e5,hl',h5⟩:=eE (m:=m) (h4.le (by omega)) v0 v2
        rw [e5]
        exact ⟨_,_,rfl,by show l'.length ≤ 62; omega,h5⟩
    · simp only [hp,decide_false,Bool.false_eq_true,if_false]
      exact ⟨_,_,rfl,hl,h.le (by omega)⟩
  rw [e1,Option.bind_some]
  simp only
  rw [e2,Option.bind_some]
  cases b
  · simp only [Bool.false_eq_true,if_false]
    exact fin (h2.le (by omega)) (by omega)
  · obtain ⟨v,s3,e3,v0,v1,_,h3⟩:=Bc (m:=m + 400) (h2.le (by omega)) (n:=2) (by omega)
    have v2:=v1 (by omega)
    simp only [if_true]
    rw [e3,Option.bind_some]
    obtain ⟨q,e4,hq⟩:=im s3 (n:=60 + v) (by omega) (by omega)
    simp only
    rw [wrap_i64 (n:=60 + v) (by omega) (by omega),e4,Option.bind_some]
    exact fin (h3.le (by omega)) hq
theorem eC {m:Nat} {s:AQ} (h:Ci (m + 3000) s):∃ l o s',Hd s = some (l,o,s') ∧ l.length ≤ 62 ∧ o.length ≤ 42 ∧ Ci m s':=by
  unfold Hd
  obtain ⟨l,s1,e1,hl,h1⟩:=gw (m:=m + 2000) h
  obtain ⟨b,s2,e2,h2⟩:=FU (m:=m + 1900) (h1.le (by omega)) (n:=2) (by omega)
  obtain ⟨c,s3,e3,h3⟩:=FU (m:=m + 1800) (h2.le (by omega)) (n:=8) (by omega)
  obtain ⟨o,s4,e4,ho,_,h4⟩:=gu (m:=m) (h3.le (by omega))
  rw [e1,Option.bind_some]
  simp only
  rw [e2,Option.bind_some]
  cases b
  · simp only [Bool.false_eq_true,if_false]
    rw [e3,Option.bind_some]
    cases c
    · exact ⟨_,_,_,rfl,hl,by simp,h3.le (by omega)⟩
    · simp only [if_true]
      rw [e4]
      exact ⟨_,_,_,rfl,hl,ho,h4⟩
  · simp only [if_true]
    rw [Bf (by simp),AH,e3,Option.bind_some]
    cases c
    · exact ⟨_,_,_,rfl,hl,by simp,h3.le (by omega)⟩
    · simp only [if_true]
      rw [e4]
      exact ⟨_,_,_,rfl,hl,ho,h4⟩
theorem dE {c:List UInt8} (h:c.length ≤ 1099511627776):∃ l s o m,Cy c = some (l,s,o,m) ∧ l.length ≤ 1001 ∧ s.length ≤ 62 ∧ o.length ≤ 42:=by
  unfold Cy
  rw [RZ,Option.bind_some]
  obtain ⟨l,s1,e1,hl,h1⟩:=XN (m:=100000) ((LL h).le (by omega))
  obtain ⟨s,o,s2,e2,hs,ho,h2⟩:=eC (m:=10000) (h1.le (by omega))
  obtain ⟨b,s3,e3,h3⟩:=FU (m:=9000) (h2.le (by omega)) (n:=12) (by omega)
  rw [e1,Option.bind_some]
  simp only
  rw [e2,Option.bind_some]
  simp only
  rw [e3,Option.bind_some]
  cases b
  · obtain ⟨v,s4,e4,_,_,_,h4⟩:=Bc (m:=8000) (h3.le (by omega)) (n:=9) (by omega)
    simp only [Bool.false_eq_true,if_false]
    rw [e4]
    exact ⟨_,_,_,_,rfl,hl,hs,ho⟩
  · obtain ⟨v,s4,e4,_,h4⟩:=Gv (m:=8000) (h3.le (by omega)) (l:=[(-1),0,20000,20001]) (by simp) (by simp)
    simp only [if_true]
    rw [e4]
    exact ⟨_,_,_,_,rfl,hl,hs,ho⟩
theorem dD {c:List UInt8} (h:c.length ≤ 1099511627776):∃ l f,Cx c = some (l,f) ∧ l.length ≤ 1001 ∧ f.length ≤ 24:=by
  unfold Cx Js
  rw [RZ,Option.bind_some]
  obtain ⟨l,s1,e1,hl,h1⟩:=XN (m:=100000) ((LL h).le (by omega))
  obtain ⟨f,s2,e2,hf,_⟩:=eD (m:=10000) (h1.le (by omega)) (c:=(l.length:Int)) (by omega) (by omega)
  rw [e1,Option.bind_some]
  simp only
  rw [e2]
  exact ⟨_,_,rfl,hl,hf⟩
theorem Sv {c:List UInt8} (h:c.length ≤ 1099511627776):∃ v,EZ c = some v ∧ -1 ≤ v ∧ v ≤ 6:=by
  unfold EZ
  rw [RZ,Option.bind_some]
  obtain ⟨v,s1,e1,v0,v1,_,_⟩:=Bc (m:=1000) ((LL h).le (by omega)) (n:=8) (by omega)
  have v2:=v1 (by omega)
  rw [e1,Option.bind_some]
  simp only
  rw [wrap_i64 (n:=v - 1) (by omega) (by omega)]
  exact ⟨_,rfl,by omega,by omega⟩
theorem Su {c:List UInt8} (h:c.length ≤ 1099511627776):∃ x,Da c = some x ∧ Yv x.Index ∧ Yv x.Kind:=by
  unfold Da
  rw [RZ,Option.bind_some]
  obtain ⟨a,s1,e1,a0,a1,_,h1⟩:=Bc (m:=10000) ((LL h).le (by omega)) (n:=100) (by omega)
  have a2:=a1 (by omega)
  obtain ⟨b,s2,e2,b0,b1,_,h2⟩:=Bc (m:=9000) (h1.le (by omega)) (n:=5) (by omega)
  have b2:=b1 (by omega)
  obtain ⟨d,s3,e3,d0,d1,_,h3⟩:=Bc (m:=8000) (h2.le (by omega)) (n:=10) (by omega)
  rw [e1,Option.bind_some]
  simp only
  rw [e2,Option.bind_some]
  simp only
  rw [e3,Option.bind_some]
  simp only
  have ra:Yv a:=by unfold Yv; omega
  split
  · obtain ⟨v,s4,e4,hv,h4⟩:=Gv (m:=7000) (h3.le (by omega)) (l:=[(-1),99,100]) (by simp) (by simp)
    rw [e4]
    refine ⟨_,rfl,?_,ao _⟩
    simp only [List.mem_cons,List.not_mem_nil,or_false] at hv
    show Yv v
    rcases hv with rfl | rfl | rfl <;> exact ⟨by decide,by decide⟩
  split
  · obtain ⟨v,s4,e4,hv,h4⟩:=Gv (m:=7000) (h3.le (by omega)) (l:=[0,6]) (by simp) (by simp)
    rw [e4]
    refine ⟨_,rfl,ra,?_⟩
    simp only [List.mem_cons,List.not_mem_nil,or_false] at hv
    show Yv v
    rcases hv with rfl | rfl <;> exact ⟨by decide,by decide⟩
  · exact ⟨_,rfl,ra,ao _⟩
end Go.Proofs.YtfaenphcgfocnaaGreatDoor
