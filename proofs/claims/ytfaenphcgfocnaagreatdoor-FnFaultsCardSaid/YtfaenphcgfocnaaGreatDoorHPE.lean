/- Plain lemmas, several texts in one. No condition. -/
import Derived.Test.YtfaenphcgfocnaaGreatDoorFAL
import Derived.Test.YtfaenphcgfocnaaGreatDoorHPA
import Derived.Test.YtfaenphcgfocnaaGreatDoorEngSH
import Derived.Test.YtfaenphcgfocnaaGreatDoorHPC
namespace Go.Proofs.YtfaenphcgfocnaaGreatDoor
open Go Go.RowKit
set_option linter.unusedSimpArgs false
set_option linter.unusedVariables false
abbrev Bs:=List UInt8
theorem zN:∀ a b:Bs,Op.bytesLess a b = decide (a < b)
 | [],[] => by simp [Op.bytesLess]
 | _ :: _,[] => by simp [Op.bytesLess]
 | [],_ :: _ => by simp [Op.bytesLess]
 | x :: a,y :: b => by
  simp only [Op.bytesLess,zN a b,List.cons_lt_cons_iff]
  by_cases c1:x < y <;> by_cases c2:x = y <;> by_cases c3:a < b <;> simp [c1,c2,c3]
theorem KJ (a:Bs):¬ a < a:=List.lt_irrefl a
theorem ZU {a b c:Bs} (h1:a < b) (h2:b < c):a < c:=List.lt_trans h1 h2
theorem bI (a b:Bs):a < b ∨ a = b ∨ b < a:=by
 by_cases h:a < b
 ·exact .inl h
 ·by_cases h2:b < a
  ·exact .inr (.inr h2)
  ·exact .inr (.inl (List.le_antisymm (List.not_lt.1 h2) (List.not_lt.1 h)))
def Iw (l:List Bs):Prop:=l.Pairwise (· < ·)
theorem OD:∀ {l1 l2:List Bs},Iw l1 → Iw l2 → (∀ x,x ∈ l1 ↔ x ∈ l2) → l1 = l2
 | [],[],_,_,_ => rfl
 | [],b :: l2,_,_,h => absurd ((h b).2 (by simp)) (by simp)
 | a :: l1,[],_,_,h => absurd ((h a).1 (by simp)) (by simp)
 | a :: l1,b :: l2,h1,h2,h => by
  obtain ⟨p1,q1⟩:=List.pairwise_cons.1 h1
  obtain ⟨p2,q2⟩:=List.pairwise_cons.1 h2
  have hab:a = b:=by
   rcases List.mem_cons.1 ((h a).1 (by simp)) with e | e
   ·exact e
   ·rcases List.mem_cons.1 ((h b).2 (by simp)) with e2 | e2
    ·exact e2.symm
    ·exact absurd (ZU (p1 b e2) (p2 a e)) (KJ a)
  subst hab
  congr 1
  refine OD q1 q2 fun x => ⟨fun hx => ?_,fun hx => ?_⟩
  ·rcases List.mem_cons.1 ((h x).1 (by simp [hx])) with e | e
   ·subst e; exact absurd (p1 _ hx) (KJ _)
   ·exact e
  ·rcases List.mem_cons.1 ((h x).2 (by simp [hx])) with e | e
   ·subst e; exact absurd (p2 _ hx) (KJ _)
   ·exact e
theorem kP (l:List Bs) (x:Bs):x ∈ Gf l ↔ x ∈ l:=by unfold Gf; exact List.mem_mergeSort
theorem kQ (l:List Bs):(Gf l).length = l.length:=by unfold Gf; exact List.length_mergeSort _
theorem pt (l:List Bs):(Gf l).Pairwise (· ≤ ·):=by
 unfold Gf
 have:=List.pairwise_mergeSort (le:=fun x y:Bs => decide (x ≤ y)) (fun a b c h1 h2 => by
  simp only [decide_eq_true_eq] at h1 h2 ⊢; exact List.le_trans h1 h2) (fun a b => by
  rcases List.le_total a b with h | h <;> simp [h]) l
 exact this.imp fun h => by simpa using h
theorem nd {l:List Bs} (x:Bs):x ∈ Hi l ↔ x ∈ l:=by
 unfold Hi Lib.compact Lib.compactUpTo
 simp only [List.mem_map,List.mem_filter,List.mem_range]
 have hget:∀ i (h:i < l.length),l.toArray[i]! = l[i]:=fun i h => by rw [getElem!_pos _ i (by simpa using h)]; simp
 constructor
 ·rintro ⟨i,⟨hi,_⟩,e⟩
  rw [hget i hi] at e
  rw [← e]; exact List.getElem_mem hi
 ·intro hx
  obtain ⟨i,hi,rfl⟩:=List.getElem_of_mem hx
  clear hx
  induction i with
  | zero => exact ⟨0,⟨hi,by simp [Lib.keeps]⟩,hget 0 hi⟩
  | succ i ih =>
   by_cases c:Lib.keeps l.toArray (i + 1) = true
   ·exact ⟨i + 1,⟨hi,c⟩,hget _ hi⟩
   ·have:l[i + 1] = l[i]:=by
     unfold Lib.keeps at c
     simp only [decide_eq_true_eq,not_or] at c
     have h2:=c.2
     rw [hget _ hi,show i + 1 - 1 = i by omega,hget i (by omega)] at h2
     exact Classical.byContradiction h2
    rw [this]
    exact ih (by omega)
theorem ch {l:List Bs} (h:l.Pairwise (· ≤ ·)):Iw (Hi l):=by
 unfold Iw Hi Lib.compact Lib.compactUpTo
 have hget:∀ i (h:i < l.length),l.toArray[i]! = l[i]:=fun i h => by rw [getElem!_pos _ i (by simpa using h)]; simp
 have hle:∀ i j (hi:i < l.length) (hj:j < l.length),i ≤ j → l[i] ≤ l[j]:=fun i j hi hj hij => by
  rcases Nat.lt_or_ge i j with c | c
  ·exact List.pairwise_iff_getElem.1 h i j hi hj c
  ·have:i = j:=by omega
   subst this; exact List.le_refl _
 rw [List.pairwise_map]
 refine List.Pairwise.imp_of_mem (R:=(· < ·)) (fun {a b} ha hb hab => ?_) (List.pairwise_lt_range.filter _)
 have hb1:=(List.mem_filter.1 hb)
 have hbl:b < l.length:=by simpa using hb1.1
 have hk:=hb1.2
 unfold Lib.keeps at hk
 simp only [decide_eq_true_eq] at hk
 rcases hk with e | e
 ·omega
 ·rw [hget _ hbl,hget (b - 1) (by omega)] at e
  rw [hget a (by omega),hget b hbl]
  have h1:=hle a (b - 1) (by omega) (by omega) (by omega)
  have h2:=hle (b - 1) b (by omega) hbl (by omega)
  rcases bI l[b - 1] l[b] with q | q | q
  ·rcases bI l[a] l[b - 1] with r | r | r
   ·exact ZU r q
   ·rw [r]; exact q
   ·exact absurd r (List.not_lt.2 h1)
  ·exact absurd q.symm e
  ·exact absurd q (List.not_lt.2 h2)
end Go.Proofs.YtfaenphcgfocnaaGreatDoor
namespace Go.Proofs.YtfaenphcgfocnaaGreatDoor
open Go Go.RowKit
set_option linter.unusedSimpArgs false
set_option linter.unusedVariables false
theorem Pe {l:List Bs} (hl:l.length ≤ 100000) (n:Bs):∀ k:Nat,k ≤ l.length → (∀ j (hj:j < l.length),k ≤ j → n < l[j]) →
  ∃ k':Nat,k' ≤ l.length ∧ AL (Ct l n) (k:Int) = some (k':Int) ∧ (∀ j (hj:j < l.length),k' ≤ j → n < l[j]) ∧ (∀ (h:0 < k') (h2:k' - 1 < l.length),¬ n < l[k' - 1])
 | 0,hk,hb => ⟨0,hk,Br (by simp [Ct,AH]),hb,fun h => by omega⟩
 | k + 1,hk,hb => by
  have e0:decide ((0:Int) < ((k + 1:Nat):Int)) = true:=decide_eq_true (by omega)
  have w1:IntKind.i64.wrap (((k + 1:Nat):Int) - 1) = (k:Int):=by rw [wrap_i64 (by omega) (by omega)]; omega
  have ok1:BA (k:Int) l.length = true:=by rw [Ak]; simp; omega
  have hkl:k < l.length:=by omega
  have hcond:(!(Op.bytesLess (l.getD k default) n || (l.getD k default) == n)) = decide (n < l[k]):=by
   rw [Ch hkl,zN]
   rcases bI n l[k] with h | h | h
   ·have h1:¬ l[k] < n:=fun c => KJ _ (ZU h c)
    have h2:l[k] ≠ n:=fun c => by rw [c] at h; exact KJ _ h
    simp [h,h1,h2]
   ·have h1:¬ n < l[k]:=fun c => by rw [← h] at c; exact KJ _ c
    simp [← h,KJ]
   ·have h1:¬ n < l[k]:=fun c => KJ _ (ZU h c)
    simp [h,h1]
  by_cases hbe:n < l[k]
  ·rw [DU (s':=(k:Int)) (by
    simp only [Ct,e0,w1,ok1,Int.toNat_natCast,hcond,hbe,decide_true,Bool.not_true,Bool.false_or,AH,Bool.and_self,if_true])]
   refine Pe hl n k (by omega) fun j hj hkj => ?_
   rcases Nat.lt_or_ge k j with c | c
   ·exact hb j hj (by omega)
   ·have:j = k:=by omega
    subst this; exact hbe
  ·refine ⟨k + 1,hk,Br ?_,hb,fun _ _ => by simpa using hbe⟩
   simp only [Ct,e0,w1,ok1,Int.toNat_natCast,hcond,hbe,decide_false,Bool.not_true,Bool.false_or,AH,Bool.and_false,Bool.false_eq_true,if_false]
theorem gS {l:List Bs} (hl:l.length ≤ 100000) (hs:Iw l) (n:Bs):∃ l',Em l n = some l' ∧ Iw l' ∧ l'.length ≤ l.length + 1 ∧ ∀ x,x ∈ l' ↔ x = n ∨ x ∈ l:=by
 obtain ⟨k,hk,hw,h1,h2⟩:=Pe hl n l.length (Nat.le_refl _) (fun j hj h => by omega)
 unfold Em
 rw [hw]
 simp only [Option.bind_some]
 have hlt:∀ j (hj:j < l.length),j < k → ∀ (hk2:k - 1 < l.length),l[j] < l[k - 1] ∨ j = k - 1:=fun j hj hjk hk2 => by
  rcases Nat.lt_or_ge j (k - 1) with c | c
  ·exact .inl (List.pairwise_iff_getElem.1 hs j (k - 1) hj hk2 c)
  ·exact .inr (by omega)
 by_cases h0:0 < k
 ·have e0:decide ((0:Int) < (k:Int)) = true:=decide_eq_true (by omega)
  have w1:IntKind.i64.wrap ((k:Int) - 1) = ((k - 1:Nat):Int):=by rw [wrap_i64 (by omega) (by omega)]; omega
  have hk2:k - 1 < l.length:=by omega
  have ok1:BA ((k - 1:Nat):Int) l.length = true:=by rw [Ak]; simp; omega
  simp only [e0,w1,ok1,Int.toNat_natCast,Bool.not_true,Bool.false_or,AH,Bool.true_and,Ch hk2]
  by_cases he:l[k - 1] = n
  ·have:(l[k - 1] == n) = true:=by simpa using he
   rw [if_pos this]
   exact ⟨l,rfl,hs,by omega,fun x => ⟨.inr,fun h => h.elim (fun e => by rw [e,← he]; exact List.getElem_mem hk2) id⟩⟩
  ·have:¬ (l[k - 1] == n) = true:=by simpa using he
   rw [if_neg this,FH (by omega) (by omega) (by omega),AH,Bf (by simp [cut]; omega),AH,Bf (by simp [cut]; omega),AH,FH (by omega) (by omega) (by omega),AH,Bf (by simp [cut]; omega),AH]
   have hn:l[k - 1] < n:=by
    rcases bI l[k - 1] n with c | c | c
    ·exact c
    ·exact absurd c he
    ·exact absurd c (h2 h0 hk2)
   refine ⟨_,rfl,?_,by simp [cut]; omega,fun x => ?_⟩
   ·unfold Iw
    simp only [cut,Int.toNat_natCast,List.take_length,List.nil_append]
    rw [show ((0:Int).toNat) = 0 from rfl,List.drop_zero,List.append_assoc]
    refine List.pairwise_append.2 ⟨hs.sublist (List.take_sublist _ _),?_,fun a ha b hb => ?_⟩
    ·refine List.pairwise_append.2 ⟨List.pairwise_singleton _ _,hs.sublist (List.drop_sublist _ _),fun a ha b hb => ?_⟩
     simp only [List.mem_singleton] at ha
     subst ha
     obtain ⟨i,hi,rfl⟩:=List.getElem_of_mem hb
     rw [List.getElem_drop]
     exact h1 _ _ (by omega)
    ·obtain ⟨i,hi,rfl⟩:=List.getElem_of_mem ha
     have hi':i < k:=by simp at hi; omega
     rw [List.getElem_take]
     have han:l[i] < n:=by
      rcases hlt i (by omega) hi' hk2 with c | c
      ·exact ZU c hn
      ·simp only [c]; exact hn
     rcases List.mem_append.1 hb with hb | hb
     ·simp only [List.mem_singleton] at hb; rw [hb]; exact han
     ·obtain ⟨j,hj,rfl⟩:=List.getElem_of_mem hb
      rw [List.getElem_drop]
      exact ZU han (h1 _ _ (by omega))
   ·simp only [cut,Int.toNat_natCast,List.take_length,List.nil_append,List.mem_append,List.mem_singleton]
    rw [show ((0:Int).toNat) = 0 from rfl,List.drop_zero]
    have hsplit:x ∈ l ↔ x ∈ l.take k ∨ x ∈ l.drop k:=by rw [← List.mem_append,List.take_append_drop]
    rw [hsplit]
    constructor
    ·rintro ((h | h) | h)
     ·exact .inr (.inl h)
     ·exact .inl h
     ·exact .inr (.inr h)
    ·rintro (h | h | h)
     ·exact .inl (.inr h)
     ·exact .inl (.inl h)
     ·exact .inr h
 ·obtain rfl:k = 0:=by omega
  have e0:decide ((0:Int) < ((0:Nat):Int)) = false:=rfl
  simp only [e0,Bool.not_false,Bool.true_or,AH,Bool.false_and,Bool.false_eq_true,if_false]
  rw [FH (by omega) (by omega) (by omega),AH,Bf (by simp [cut]),AH,Bf (by simp [cut]),AH,FH (by omega) (by omega) (by omega),AH,Bf (by simp [cut]; omega),AH]
  refine ⟨_,rfl,?_,by simp [cut],fun x => ?_⟩
  ·unfold Iw
   simp only [cut]
   simp only [Int.toNat_natCast,List.take_length,List.take_zero,List.drop_nil,List.nil_append,List.drop_zero]
   refine List.pairwise_append.2 ⟨List.pairwise_singleton _ _,hs,fun a ha b hb => ?_⟩
   simp only [List.mem_singleton] at ha
   subst ha
   obtain ⟨i,hi,rfl⟩:=List.getElem_of_mem hb
   exact h1 i hi (by omega)
  ·simp [cut]
end Go.Proofs.YtfaenphcgfocnaaGreatDoor
namespace Go.Proofs.YtfaenphcgfocnaaGreatDoor
open Go Go.RowKit
set_option linter.unusedSimpArgs false
set_option linter.unusedVariables false
theorem yF {l:List Bs} (hl:l.length ≤ 100000) (hs:Iw l) {i:Nat} (hi:i < l.length):Ew l l[i] = some (i:Int):=by
 unfold Ew
 rw [Dq (step:=Cp l l[i]) (fun k => l.getD k default == l[i]) (fun k => (k:Int)) l.length
  (fun k hk => by
   simp only [Cp,Ak,hk,decide_true,AH,Int.ofNat_lt,if_true,Int.toNat_natCast,Ar (show k < 9223372036854775807 by omega)]
   cases (l.getD k default == l[i]) <;> rfl)
  (by simp [Cp])]
 have:(List.range l.length).find? (fun k => l.getD k default == l[i]) = some i:=by
  rw [List.find?_range_eq_some]
  refine ⟨by rw [Ch hi]; simp,by simpa using hi,fun j hj => ?_⟩
  rw [Ch (show j < l.length by omega)]
  have h:=List.pairwise_iff_getElem.1 hs j i (by omega) hi hj
  have hne:l[j] ≠ l[i]:=fun e => by rw [e] at h; exact KJ _ h
  simpa using hne
 rw [this]; rfl
def LB (l:List AA):List Bs:=l.map (·.Observer)
theorem ZT {l:List AA} (hl:l.length ≤ 10000):∃ ns,GS l false = some ns ∧ Bh l = some ns ∧ Iw ns ∧ ns.length ≤ l.length ∧ ∀ x,x ∈ ns ↔ x ∈ LB l:=by
 obtain ⟨ns,h1,h2,h3,h4⟩:∃ ns,GS l false = some ns ∧ Iw ns ∧ ns.length ≤ l.length ∧ ∀ x,x ∈ ns ↔ x ∈ LB l:=by
  unfold GS
  obtain ⟨y,hy,hq⟩:=ES (step:=EO l false) (fun s => ∃ i:Nat,s.2 = (i:Int) ∧ i ≤ l.length ∧ Iw s.1 ∧ s.1.length ≤ i ∧ ∀ x,x ∈ s.1 ↔ x ∈ LB (l.take i))
   (fun y => Iw y ∧ y.length ≤ l.length ∧ ∀ x,x ∈ y ↔ x ∈ LB l) (fun s => l.length - s.2.toNat) (by
   rintro ⟨out,ii⟩ ⟨i,rfl,hi,hs,hlen,hm⟩
   simp only at hs hlen hm
   by_cases h:i < l.length
   ·left
    obtain ⟨l',e,p1,p2,p3⟩:=gS (l:=out) (by omega) hs (l.getD i default).Observer
    simp only [EO,Ak,h,decide_true,AH,Int.ofNat_lt,if_true,Bool.false_eq_true,if_false,Int.toNat_natCast,Ar (show i < 9223372036854775807 by omega),e,Option.bind_some]
    refine ⟨_,rfl,⟨i + 1,rfl,by omega,p1,by show l'.length ≤ i + 1; omega,fun x => ?_⟩,by simp only [Int.toNat_natCast]; omega⟩
    show x ∈ l' ↔ _
    rw [p3,hm,List.take_add_one,List.getElem?_eq_getElem h,Ch h]
    simp only [LB,List.map_append,List.mem_append,Option.toList_some,List.map_cons,List.map_nil,List.mem_singleton]
    exact Or.comm
   ·right
    obtain rfl:i = l.length:=by omega
    rw [List.take_length] at hm
    exact ⟨out,by simp [EO],hs,hlen,hm⟩) (s:=([],0)) ⟨0,rfl,by omega,List.Pairwise.nil,by simp,fun x => by simp [LB]⟩
  rw [hy]
  exact ⟨y,rfl,hq⟩
 refine ⟨ns,h1,?_,h2,h3,h4⟩
 unfold Bh
 have hw:AL (BR l (l.length:Int)) (([]:List Bs),0) = some (LB l):=by
  have:=PJ (step:=BR l (l.length:Int)) (fun i => LB (l.take i)) l.length (r:=LB l) (fun i hi => by
   have e1:(LB (l.take i)).length ≤ i:=by simp [LB]; omega
   simp only [BR,Hn,Ak,hi,decide_true,AH,Int.ofNat_lt,if_true,Int.toNat_natCast,Ar (show i < 9223372036854775807 by omega),Option.bind_some]
   rw [Bf (by simp; omega),AH,List.take_add_one,List.getElem?_eq_getElem hi,Ch hi]
   simp only [LB,List.map_append,Option.toList_some,List.map_cons,List.map_nil]) (by rw [List.take_length]; simp [BR])
  simpa [LB] using this
 rw [hw]
 have l1:(LB l).length = l.length:=by simp [LB]
 simp only [Option.bind_some]
 unfold jk
 rw [if_pos (by omega)]
 simp only [Option.bind_some]
 unfold Qr
 rw [if_pos (by rw [kQ]; omega)]
 simp only [Option.bind_some,Option.some.injEq]
 refine OD (ch (pt _)) h2 fun x => ?_
 rw [nd,kP,h4]
end Go.Proofs.YtfaenphcgfocnaaGreatDoor
namespace Go.Proofs.YtfaenphcgfocnaaGreatDoor
open Go Go.RowKit
set_option linter.unusedSimpArgs false
set_option linter.unusedVariables false
theorem tt:Kn = Bw:=id rfl
theorem tu {a b:Int} (ha:0 ≤ a) (hb:1 ≤ b):∃ g,AL Bw (a,b) = some g ∧ 1 ≤ g ∧ g ∣ a ∧ g ∣ b:=by
 obtain ⟨g,h1,h2⟩:=ES (step:=Bw) (fun s => 0 ≤ s.1 ∧ 0 ≤ s.2 ∧ (1 ≤ s.1 ∨ 1 ≤ s.2) ∧ ∀ d,d ∣ s.1 → d ∣ s.2 → d ∣ a ∧ d ∣ b) (fun g => 1 ≤ g ∧ g ∣ a ∧ g ∣ b) (fun s => s.2.toNat) (by
  rintro ⟨x,y⟩ ⟨h1,h2,h3,h4⟩
  simp only at h1 h2 h3 h4
  by_cases c:y = 0
  ·right
   subst c
   exact ⟨x,by simp [Bw],by omega,h4 x (Int.dvd_refl _) (Int.dvd_zero _)⟩
  ·left
   have e:(y == 0) = false:=by simpa using c
   simp only [Bw,e,Bool.not_false,if_true,Pp c,AH]
   have t:=Int.tmod_lt_of_pos x (show 0 < y by omega)
   have t0:=Int.tmod_nonneg y h1
   refine ⟨_,rfl,⟨h2,t0,.inl (by show 1 ≤ y; omega),fun d d1 d2 => h4 d ?_ d1⟩,by show (x.tmod y).toNat < y.toNat; omega⟩
   rw [← Int.mul_tdiv_add_tmod x y]
   exact Int.dvd_add (Int.dvd_mul_of_dvd_left d1) d2) (s:=(a,b)) ⟨ha,by show 0 ≤ b; omega,.inr hb,fun d d1 d2 => ⟨d1,d2⟩⟩
 exact ⟨g,h1,h2⟩
noncomputable def Tc (a b:Int):Int:=Classical.epsilon fun g => AL Bw (a,b) = some g
theorem Xx {a b:Int} (ha:0 ≤ a) (hb:1 ≤ b):AL Bw (a,b) = some (Tc a b) ∧ 1 ≤ Tc a b ∧ Tc a b ∣ a ∧ Tc a b ∣ b:=by
 obtain ⟨g,h1,h2⟩:=tu ha hb
 have h:AL Bw (a,b) = some (Tc a b):=Classical.epsilon_spec (p:=fun g => AL Bw (a,b) = some g) ⟨g,h1⟩
 refine ⟨h,?_⟩
 rw [h1] at h
 cases h; exact h2
theorem jl {a b:Int} (ha:0 ≤ a) (hb:1 ≤ b):AL Bw (a,b) = some (Tc a b) ∧ 1 ≤ Tc a b:=⟨(Xx ha hb).1,(Xx ha hb).2.1⟩
noncomputable def Hh (a b:Int):Ac:=⟨a.tdiv (Tc a b),b.tdiv (Tc a b)⟩
theorem Tl {a g:Int} (ha:0 ≤ a) (h1:a ≤ 1000000) (hg:1 ≤ g):0 ≤ a.tdiv g ∧ a.tdiv g ≤ 1000000:=by
 rw [Int.tdiv_eq_ediv_of_nonneg ha]
 refine ⟨Int.ediv_nonneg ha (by omega),Int.le_trans (Int.ediv_le_self _ ha) h1⟩
theorem wF {a b:Int} (ha:0 ≤ a) (h1:a ≤ 1000000) (hb:1 ≤ b) (h2:b ≤ 1000000):Ig a b = some (Hh a b):=by
 obtain ⟨g1,g2⟩:=jl ha hb
 obtain ⟨p1,p2⟩:=Tl ha h1 g2
 obtain ⟨q1,q2⟩:=Tl (show 0 ≤ b by omega) h2 g2
 have hs:If a = some a:=by
  unfold If
  have:¬ a < 0:=by omega
  simp [this]
 unfold Ig Kg
 rw [hs]
 simp only [Option.bind_some,g1]
 rw [Pp (by omega),AH,wrap_i64 (by omega) (by omega),wrap_i64 (by omega) (by omega)]
 rfl
theorem ko {a b:Int} (ha:0 ≤ a) (h1:a ≤ 1000000) (hb:1 ≤ b) (h2:b ≤ 1000000):Jf a b = some (Hh a b):=by
 obtain ⟨g1,g2⟩:=jl ha hb
 obtain ⟨p1,p2⟩:=Tl ha h1 g2
 obtain ⟨q1,q2⟩:=Tl (show 0 ≤ b by omega) h2 g2
 have c1:¬ Tc a b < 0:=by omega
 have c2:¬ b < 0:=by omega
 unfold Jf Qn Qo
 rw [tt,g1]
 simp only [Option.bind_some,c1,c2,decide_false,Bool.false_eq_true,if_false]
 rw [Pp (by omega),AH,wrap_i64 (by omega) (by omega),wrap_i64 (by omega) (by omega)]
 rfl
def BL (p:Nat → Bool):Nat → Int
 | 0 => 0
 | n + 1 => BL p n + if p n = true then 1 else 0
theorem Gg (p:Nat → Bool):∀ n:Nat,0 ≤ BL p n ∧ BL p n ≤ n
 | 0 => by simp [BL]
 | n + 1 => by
  have:=Gg p n
  simp only [BL]
  split <;> omega
theorem fE {p:Nat → Bool} {i:Nat} (h:p i = true):∀ n:Nat,i < n → 1 ≤ BL p n
 | 0,hi => by omega
 | n + 1,hi => by
  simp only [BL]
  have:=Gg p n
  rcases Nat.lt_or_ge i n with c | c
  ·have:=fE h n c
   split <;> omega
  ·have:i = n:=by omega
   subst this
   rw [if_pos h]; omega
section
variable (l:List AA) (f:List AJ)
def isB (i:Nat):Bool:=f.any (·.Index == (i:Int))
def Cs (n:Bs) (i:Nat):Bool:=(l.getD i default).Observer == n
def CL (n:Bs) (i:Nat):Bool:=((l.getD i default).Observer == n) && isB f i
end
theorem ZL {α:Type} {l:List α} {g h:α → Int} {i:Nat} (hi:i < l.length) {v:Int} (h1:v = h l[i]) (h2:∀ j (hj:j < l.length),j ≠ i → g l[j] = h l[j]):(l.map g).set i v = l.map h:=by
 refine List.ext_getElem (by simp) fun j a b => ?_
 have hj:j < l.length:=by simpa using b
 rw [List.getElem_set]
 by_cases c:i = j
 ·subst c; rw [if_pos rfl,h1]; simp
 ·rw [if_neg c]; simp [h2 j hj (fun e => c e.symm)]
theorem Sw {l:List AA} {f:List AJ} (hl:l.length ≤ 10000) (hf:f.length ≤ 1048576) {ns:List Bs} (hs:Iw ns) (hn:ns.length ≤ 10000) (hm:∀ x,x ∈ ns ↔ x ∈ LB l) :
  AL (DC l f ns) (List.replicate ns.length 0,List.replicate ns.length 0,0) = some (ns.map (fun n => BL (CL l f n) l.length),ns.map (fun n => BL (Cs l n) l.length)):=by
 have hz:List.replicate ns.length (0:Int) = ns.map (fun _ => 0):=by
  rw [List.map_const']
 have:=JD (step:=DC l f ns) (fun i => (ns.map (fun n => BL (CL l f n) i),ns.map (fun n => BL (Cs l n) i),(i:Int))) l.length (r:=(ns.map (fun n => BL (CL l f n) l.length),ns.map (fun n => BL (Cs l n) l.length))) (fun i hi => by
  obtain ⟨k,hk,hkn⟩:∃ k,∃ h:k < ns.length,ns[k] = (l.getD i default).Observer:=by
   have:(l.getD i default).Observer ∈ ns:=(hm _).2 (by rw [Ch hi]; exact List.mem_map_of_mem (List.getElem_mem hi))
   exact List.getElem_of_mem this
  have hfind:=yF (by omega) hs hk
  rw [hkn] at hfind
  have hne:∀ j (hj:j < ns.length),j ≠ k → ns[j] ≠ (l.getD i default).Observer:=fun j hj hjk e => by
   rw [← hkn] at e
   rcases Nat.lt_or_ge j k with c | c
   ·have:=List.pairwise_iff_getElem.1 hs j k hj hk c
    rw [e] at this; exact KJ _ this
   ·have:=List.pairwise_iff_getElem.1 hs k j hk hj (by omega)
    rw [e] at this; exact KJ _ this
  have ca:=Gg (Cs l ns[k]) i
  have cb:=Gg (CL l f ns[k]) i
  have ga:(ns.map (fun n => BL (Cs l n) i)).getD k default = BL (Cs l ns[k]) i:=by rw [Ch (by simpa using hk)]; simp
  have gb:(ns.map (fun n => BL (CL l f n) i)).getD k default = BL (CL l f ns[k]) i:=by rw [Ch (by simpa using hk)]; simp
  have sa:(ns.map (fun n => BL (Cs l n) i)).set k (BL (Cs l ns[k]) i + 1) = ns.map (fun n => BL (Cs l n) (i + 1)):=by
   refine ZL hk ?_ fun j hj hjk => ?_
   ·simp [BL,Cs,hkn]
   ·have:((l.getD i default).Observer == ns[j]) = false:=by simpa using (hne j hj hjk).symm
    simp only [BL,Cs,this,Bool.false_eq_true,if_false,Int.add_zero]
  have k1:decide (k < (ns.map (fun n => BL (Cs l n) i)).length) = true:=by simpa using hk
  have k2:decide (k < (ns.map (fun n => BL (CL l f n) i)).length) = true:=by simpa using hk
  simp only [DC,Ak,hi,decide_true,AH,Int.ofNat_lt,if_true,Int.toNat_natCast,Ar (show i < 9223372036854775807 by omega),hfind,Option.bind_some,k1,ZV (show f.length ≤ 1099511627776 by omega),ga,gb,
   wrap_i64 (n:=BL (Cs l ns[k]) i + 1) (by omega) (by omega),wrap_i64 (n:=BL (CL l f ns[k]) i + 1) (by omega) (by omega),sa]
  cases hb:f.any (·.Index == (i:Int))
  ·simp only [Bool.false_eq_true,if_false]
   have:ns.map (fun n => BL (CL l f n) i) = ns.map (fun n => BL (CL l f n) (i + 1)):=by
    refine List.map_congr_left fun n _ => ?_
    simp only [BL,CL,isB,hb,Bool.and_false,Bool.false_eq_true,if_false,Int.add_zero]
   rw [this]
  ·simp only [if_true,k2,AH]
   have sb:(ns.map (fun n => BL (CL l f n) i)).set k (BL (CL l f ns[k]) i + 1) = ns.map (fun n => BL (CL l f n) (i + 1)):=by
    refine ZL hk ?_ fun j hj hjk => ?_
    ·simp [BL,CL,isB,hb,hkn]
    ·have:((l.getD i default).Observer == ns[j]) = false:=by simpa using (hne j hj hjk).symm
     simp only [BL,CL,this,Bool.false_and,Bool.false_eq_true,if_false,Int.add_zero]
   rw [sb]) (by simp [DC])
 have e0:ns.map (fun n => BL (CL l f n) 0) = List.replicate ns.length 0:=by rw [hz]; rfl
 have e1:ns.map (fun n => BL (Cs l n) 0) = List.replicate ns.length 0:=by rw [hz]; rfl
 simp only [e0,e1] at this
 exact this
theorem cR {l:List AA} {f:List AJ} (hl:l.length ≤ 10000) (hf:f.length ≤ 1048576) (ns:List Bs) (sh:List Ac) (n:Bs) (a b:Int) :
  AL (Cc l f ns sh n a b l (l.length:Int)) (0,0,0) = some (BL (CL l f n) l.length,BL (Cs l n) l.length):=by
 exact JD (step:=Cc l f ns sh n a b l (l.length:Int)) (fun i => (BL (CL l f n) i,BL (Cs l n) i,(i:Int))) l.length (r:=(BL (CL l f n) l.length,BL (Cs l n) l.length)) (fun i hi => by
  have ca:=Gg (Cs l n) i
  have cb:=Gg (CL l f n) i
  simp only [Cc,Ak,hi,decide_true,AH,Int.ofNat_lt,if_true,Int.toNat_natCast,Ar (show i < 9223372036854775807 by omega),Mt (show f.length ≤ 1099511627776 by omega),Option.bind_some,
   wrap_i64 (n:=BL (Cs l n) i + 1) (by omega) (by omega),wrap_i64 (n:=BL (CL l f n) i + 1) (by omega) (by omega)]
  cases ho:((l.getD i default).Observer == n)
  ·simp only [BL,Cs,CL,ho,Bool.false_and,Bool.false_eq_true,if_false,Int.add_zero,Bool.not_false,if_true]
  ·cases hb:f.any (·.Index == (i:Int))
   ·simp only [BL,Cs,CL,isB,ho,hb,Bool.true_and,Bool.false_eq_true,if_false,if_true,Int.add_zero,Bool.not_true]
   ·simp only [BL,Cs,CL,isB,ho,hb,Bool.true_and,if_true,Bool.not_true,Bool.false_eq_true,if_false]) (by simp [Cc])
noncomputable def Ea (l:List AA) (f:List AJ) (n:Bs):Ac:=Hh (BL (CL l f n) l.length) (BL (Cs l n) l.length)
theorem Vn {l:List AA} {n:Bs} (h:n ∈ LB l):1 ≤ BL (Cs l n) l.length:=by
 obtain ⟨x,hx,e⟩:=List.mem_map.1 h
 obtain ⟨i,hi,rfl⟩:=List.getElem_of_mem hx
 exact fE (i:=i) (by simp only [Cs,← e,Ch hi,beq_self_eq_true]) _ hi
theorem TF {l:List AA} {f:List AJ} (hl:l.length ≤ 10000) (hf:f.length ≤ 1048576) {ns:List Bs} (hi:Bh l = some ns) (hn:ns.length ≤ 10000) (hm:∀ x,x ∈ ns ↔ x ∈ LB l) :
  ER l f = some (ns,ns.map (Ea l f)):=by
 unfold ER
 rw [hi]
 simp only [Option.bind_some]
 have:=PJ (step:=DQ l f ns (ns.length:Int)) (fun i => (ns.take i).map (Ea l f)) ns.length (r:=ns.map (Ea l f)) (fun i hi => by
  have hmem:ns[i] ∈ LB l:=(hm _).1 (List.getElem_mem hi)
  have a1:=Vn hmem
  have a2:=Gg (Cs l ns[i]) l.length
  have b2:=Gg (CL l f ns[i]) l.length
  simp only [DQ,Ak,hi,decide_true,AH,Int.ofNat_lt,if_true,Int.toNat_natCast,Ar (show i < 9223372036854775807 by omega),cR hl hf,Option.bind_some,Ch hi,
   ko b2.1 (show BL (CL l f ns[i]) l.length ≤ 1000000 by omega) a1 (show BL (Cs l ns[i]) l.length ≤ 1000000 by omega)]
  rw [Bf (by simp; omega),AH,List.take_add_one,List.getElem?_eq_getElem hi]
  simp only [List.map_append,Option.toList_some,List.map_cons,List.map_nil,Ea]) (by rw [List.take_length]; simp [DQ])
 simp only [List.take_zero,List.map_nil] at this
 rw [this]; rfl
end Go.Proofs.YtfaenphcgfocnaaGreatDoor
namespace Go.Proofs.YtfaenphcgfocnaaGreatDoor
open Go Go.RowKit
set_option linter.unusedSimpArgs false
set_option linter.unusedVariables false
theorem OC {l:List AA} {f:List AJ} (hl:l.length ≤ 1048576) (hf:f.length ≤ 1048576) :
  ∃ r c,r.length ≤ 1048576 ∧ EA l f = some (r,c) ∧ CM l f = some (r,c):=by
 unfold EA CM
 rw [ci (by omega) (by omega),MP (by omega) (by omega)]
 simp only [Option.bind_some]
 generalize (if (CZ l && decide (l.length ≤ 100)) = true then (if FW l.length f = true then (0:Int) else 2) else 1) = q
 by_cases hq:q = 0
 ·subst hq
  simp only [beq_self_eq_true,Bool.not_true,Bool.false_eq_true,if_false]
  refine ⟨Hx (α:=AA) (fun i => !(f.any (·.Index == (i:Int)))) (fun i => l.getD i default) l.length,0,Nat.le_trans (Oq _ _ _) hl,?_,?_⟩
  ·rw [OL (step:=CV l f) (fun i => !(f.any (·.Index == (i:Int)))) (fun i => l.getD i default) l.length (fun out i hi ho => by
    simp only [CV,Ak,hi,decide_true,AH,Int.ofNat_lt,if_true,Int.toNat_natCast,Ar (show i < 9223372036854775807 by omega),ZV (show f.length ≤ 1099511627776 by omega),Option.bind_some,
     Bf (show (out.length + ([l.getD i default]:List AA).length) * 56 ≤ 140737488355328 by simp; omega)]
    cases f.any (·.Index == (i:Int)) <;> rfl) (by simp [CV]; rfl)]
   rfl
  ·rw [OL (step:=Bd f l (l.length:Int)) (fun i => !(f.any (·.Index == (i:Int)))) (fun i => l.getD i default) l.length (fun out i hi ho => by
    simp only [Bd,Ak,hi,decide_true,AH,Int.ofNat_lt,if_true,Int.toNat_natCast,Ar (show i < 9223372036854775807 by omega),Mt (show f.length ≤ 1099511627776 by omega),Option.bind_some,
     Bf (show (out.length + ([l.getD i default]:List AA).length) * 56 ≤ 140737488355328 by simp; omega)]
    cases f.any (·.Index == (i:Int)) <;> rfl) (by simp [Bd]; rfl)]
   rfl
 ·have h:(!(q == 0)) = true:=by simpa using hq
  simp only [h,if_true]
  exact ⟨[],q,by simp,rfl,rfl⟩
end Go.Proofs.YtfaenphcgfocnaaGreatDoor
namespace Go.Proofs.YtfaenphcgfocnaaGreatDoor
open Go Go.RowKit
set_option linter.unusedSimpArgs false
set_option linter.unusedVariables false
theorem uH {l:List AA} {f:List AJ} (h:(if (CZ l && decide (l.length ≤ 100)) = true then (if FW l.length f = true then (0:Int) else 2) else 1) = 0):l.length ≤ 100:=by
 split at h
 ·rename_i c
  simp only [Bool.and_eq_true,decide_eq_true_eq] at c
  exact c.2
 ·omega
theorem Ss {l:List AA} {f:List AJ} (hl:l.length ≤ 1048576) (hf:f.length ≤ 1048576):∃ r c,r.length ≤ 1048576 ∧ Fh l f = some (r,c) ∧ Fl l f = some (r,c):=by
 unfold Fh Fl
 rw [ci (by omega) (by omega),MP (by omega) (by omega)]
 simp only [Option.bind_some]
 have hcl:=uH (l:=l) (f:=f)
 generalize (if (CZ l && decide (l.length ≤ 100)) = true then (if FW l.length f = true then (0:Int) else 2) else 1) = q at hcl ⊢
 by_cases hq:q = 0
 ·have hl100:=hcl hq
  subst hq
  obtain ⟨ns,e1,e2,hs,hn,hm⟩:=ZT (l:=l) (by omega)
  simp only [beq_self_eq_true,Bool.not_true,Bool.false_eq_true,if_false]
  rw [TF (by omega) hf e2 (by omega) hm]
  unfold Fe
  rw [e1]
  simp only [Option.bind_some,Int.toNat_natCast]
  rw [jP (by omega) (by omega) (by omega),AH,Sw (by omega) hf hs (by omega) hm]
  simp only [Option.bind_some]
  have:=PJ (step:=DN ns (ns.map (fun n => BL (CL l f n) l.length)) (ns.map (fun n => BL (Cs l n) l.length))) (fun i => (ns.take i).map (Ea l f)) ns.length (r:=ns.map (Ea l f)) (fun i hi => by
   have hmem:ns[i] ∈ LB l:=(hm _).1 (List.getElem_mem hi)
   have a1:=Vn hmem
   have a2:=Gg (Cs l ns[i]) l.length
   have b2:=Gg (CL l f ns[i]) l.length
   have k1:BA (i:Int) (ns.map (fun n => BL (CL l f n) l.length)).length = true:=by rw [Ak]; simpa using hi
   have k2:BA (i:Int) (ns.map (fun n => BL (Cs l n) l.length)).length = true:=by rw [Ak]; simpa using hi
   have g1:(ns.map (fun n => BL (CL l f n) l.length)).getD i default = BL (CL l f ns[i]) l.length:=by rw [Ch (by simpa using hi)]; simp
   have g2:(ns.map (fun n => BL (Cs l n) l.length)).getD i default = BL (Cs l ns[i]) l.length:=by rw [Ch (by simpa using hi)]; simp
   simp only [DN,hi,decide_true,k1,k2,AH,Int.ofNat_lt,if_true,Int.toNat_natCast,Ar (show i < 9223372036854775807 by omega),Option.bind_some,g1,g2,
    wF b2.1 (show BL (CL l f ns[i]) l.length ≤ 1000000 by omega) a1 (show BL (Cs l ns[i]) l.length ≤ 1000000 by omega)]
   rw [Bf (by simp; omega),AH,List.take_add_one,List.getElem?_eq_getElem hi]
   simp only [List.map_append,Option.toList_some,List.map_cons,List.map_nil,Ea]) (by rw [List.take_length]; simp [DN])
  simp only [List.take_zero,List.map_nil] at this
  rw [this]
  exact ⟨ns.map (Ea l f),0,by simp; omega,rfl,rfl⟩
 ·have h:(!(q == 0)) = true:=by simpa using hq
  simp only [h,if_true]
  exact ⟨[],q,by simp,rfl,rfl⟩
end Go.Proofs.YtfaenphcgfocnaaGreatDoor
namespace Go.Proofs.YtfaenphcgfocnaaGreatDoor
open Go Go.RowKit
set_option linter.unusedSimpArgs false
set_option linter.unusedVariables false
theorem nf {l:List AA} {f:List AJ} (h:(if (CZ l && decide (l.length ≤ 100)) = true then (if FW l.length f = true then (0:Int) else 2) else 1) = 0):l.length ≤ 100:=by
 split at h
 ·rename_i c
  simp only [Bool.and_eq_true,decide_eq_true_eq] at c
  exact c.2
 ·omega
theorem Qt {a b:Int} (ha:0 ≤ a) (h1:a ≤ 10000) (hb:1 ≤ b) (h2:b ≤ 10000):∃ g,1 ≤ g ∧ a = g * (Hh a b).Num ∧ b = g * (Hh a b).Den ∧ 0 ≤ (Hh a b).Num ∧ (Hh a b).Num ≤ 10000 ∧ 1 ≤ (Hh a b).Den ∧ (Hh a b).Den ≤ 10000:=by
 obtain ⟨_,g1,⟨x,hx⟩,⟨y,hy⟩⟩:=Xx ha hb
 refine ⟨Tc a b,g1,?_⟩
 have key:∀ g x c:Int,1 ≤ g → 0 ≤ c → c = g * x → c.tdiv g = x:=by
  intro g x c h0 hc e
  rw [Int.tdiv_eq_ediv_of_nonneg hc,e,Int.mul_ediv_cancel_left _ (by omega)]
 have e1:(Hh a b).Num = x:=key _ _ _ g1 ha hx
 have e2:(Hh a b).Den = y:=key _ _ _ g1 (by omega) hy
 rw [e1,e2]
 generalize Tc a b = g at g1 hx hy
 have x0:0 ≤ x:=by
  rcases Int.lt_or_le x 0 with c | c
  ·have:=Int.mul_lt_mul_of_pos_left c (show 0 < g by omega); omega
  ·exact c
 have y0:1 ≤ y:=by
  rcases Int.lt_or_le y 1 with c | c
  ·have:y ≤ 0:=by omega
   have:=Int.mul_le_mul_of_nonneg_left this (show 0 ≤ g by omega); omega
  ·exact c
 have xg:=Int.mul_le_mul_of_nonneg_right g1 x0
 have yg:=Int.mul_le_mul_of_nonneg_right g1 (show 0 ≤ y by omega)
 exact ⟨hx,hy,x0,by omega,y0,by omega⟩
theorem yD {a b c d:Int} (ha:0 ≤ a) (h1:a ≤ 10000) (hb:1 ≤ b) (h2:b ≤ 10000) (hc:0 ≤ c) (h3:c ≤ 10000) (hd:1 ≤ d) (h4:d ≤ 10000) :
  Cu (Hh a b) (Hh c d) = some (decide (a * d < c * b)):=by
 obtain ⟨g,g1,a1,b1,n0,n1,d0,d1⟩:=Qt ha h1 hb h2
 obtain ⟨k,k1,c1,e1,m0,m1,p0,p1⟩:=Qt hc h3 hd h4
 unfold Cu
 generalize (Hh a b).Num = A at *
 generalize (Hh a b).Den = B at *
 generalize (Hh c d).Num = C at *
 generalize (Hh c d).Den = D at *
 have q1:0 ≤ A * D:=Int.mul_nonneg n0 (by omega)
 have q2:A * D ≤ 10000 * 10000:=Int.mul_le_mul n1 p1 (by omega) (by omega)
 have q3:0 ≤ C * B:=Int.mul_nonneg m0 (by omega)
 have q4:C * B ≤ 10000 * 10000:=Int.mul_le_mul m1 d1 (by omega) (by omega)
 rw [wrap_i64 (n:=A * D) (by omega) (by omega),wrap_i64 (n:=C * B) (by omega) (by omega)]
 have hgk:0 < g * k:=Int.mul_pos (by omega) (by omega)
 have r1:a * d = (g * k) * (A * D):=by rw [a1,e1]; simp only [Int.mul_assoc,Int.mul_comm,Int.mul_left_comm]
 have r2:c * b = (g * k) * (C * B):=by rw [c1,b1]; simp only [Int.mul_assoc,Int.mul_comm,Int.mul_left_comm]
 congr 1
 rw [r1,r2]
 rw [decide_eq_decide]
 exact ⟨fun h => Int.mul_lt_mul_of_pos_left h hgk,fun h => Int.lt_of_mul_lt_mul_left h (by omega)⟩
section
variable {l:List AA} {f:List AJ} {ns:List Bs}
def AGk (l:List AA) (f:List AJ) (ns:List Bs) (best:Int) (worst:Bs) (most:Ac):Prop :=
 (best = -1 ∧ worst = [] ∧ most = ⟨0,1⟩) ∨ ∃ k:Nat,∃ h:k < ns.length,best = (k:Int) ∧ worst = ns[k] ∧ most = Ea l f ns[k] ∧ 1 ≤ BL (CL l f ns[k]) l.length
theorem Ww (hl:l.length ≤ 100) (hn:ns.length ≤ 10000) (hm:∀ x,x ∈ ns ↔ x ∈ LB l):∀ (d i:Nat) (best:Int) (worst:Bs) (most:Ac),i + d = ns.length → AGk l f ns best worst most →
  ∃ best' worst' most',AL (Bt ns (ns.map (fun n => BL (CL l f n) l.length)) (ns.map (fun n => BL (Cs l n) l.length))) (best,(i:Int)) = some best' ∧
   AL (Bu ns (ns.map (Ea l f)) ((ns.map (Ea l f)).length:Int)) (worst,most,(i:Int)) = some (worst',most') ∧ AGk l f ns best' worst' most'
 | 0,i,best,worst,most,hd,hr => by
  obtain rfl:i = ns.length:=by omega
  exact ⟨best,worst,most,Br (by simp [Bt]),Br (by simp [Bu]),hr⟩
 | d + 1,i,best,worst,most,hd,hr => by
  have hi:i < ns.length:=by omega
  have inb:∀ k (h:k < ns.length),0 ≤ BL (CL l f ns[k]) l.length ∧ BL (CL l f ns[k]) l.length ≤ 10000 ∧ 1 ≤ BL (Cs l ns[k]) l.length ∧ BL (Cs l ns[k]) l.length ≤ 10000:=fun k h => by
   have a1:=Vn ((hm _).1 (List.getElem_mem h))
   have a2:=Gg (Cs l ns[k]) l.length
   have b2:=Gg (CL l f ns[k]) l.length
   omega
  have gb:∀ k (h:k < ns.length),(ns.map (fun n => BL (CL l f n) l.length)).getD k default = BL (CL l f ns[k]) l.length:=fun k h => by rw [Ch (by simpa using h)]; simp
  have ga:∀ k (h:k < ns.length),(ns.map (fun n => BL (Cs l n) l.length)).getD k default = BL (Cs l ns[k]) l.length:=fun k h => by rw [Ch (by simpa using h)]; simp
  have gs:(ns.map (Ea l f)).getD i default = Ea l f ns[i]:=by rw [Ch (by simpa using hi)]; simp
  have xb:∀ k,k < ns.length → BA (k:Int) (ns.map (fun n => BL (CL l f n) l.length)).length = true:=fun k h => by rw [Ak]; simpa using h
  have xa:∀ k,k < ns.length → BA (k:Int) (ns.map (fun n => BL (Cs l n) l.length)).length = true:=fun k h => by rw [Ak]; simpa using h
  have xs:BA (i:Int) (ns.map (Ea l f)).length = true:=by rw [Ak]; simpa using hi
  have lt1:decide ((i:Int) < (ns.length:Int)) = true:=decide_eq_true (by omega)
  have lt2:decide ((i:Int) < ((ns.map (Ea l f)).length:Int)) = true:=decide_eq_true (by simp; omega)
  obtain ⟨i1,i2,i3,i4⟩:=inb i hi
  obtain ⟨c,hc,hs,him⟩:∃ c:Bool,(c = true → 1 ≤ BL (CL l f ns[i]) l.length) ∧
    Bt ns (ns.map (fun n => BL (CL l f n) l.length)) (ns.map (fun n => BL (Cs l n) l.length)) (best,(i:Int)) = some (.inl (if c = true then (i:Int) else best,((i + 1:Nat):Int))) ∧
    Bu ns (ns.map (Ea l f)) ((ns.map (Ea l f)).length:Int) (worst,most,(i:Int)) = some (.inl (if c = true then ns[i] else worst,if c = true then Ea l f ns[i] else most,((i + 1:Nat):Int))):=by
   rcases hr with ⟨rfl,rfl,rfl⟩ | ⟨k,hk,rfl,rfl,rfl,hk1⟩
   ·refine ⟨decide (0 < BL (CL l f ns[i]) l.length),fun h => by have:=of_decide_eq_true h; omega,?_,?_⟩
    ·have e1:decide ((-1:Int) < 0) = true:=rfl
     simp only [Bt,lt1,if_true,xb i hi,AH,Int.toNat_natCast,gb i hi,e1,Bool.not_true,Bool.and_false,Bool.not_false,Bool.true_or,Bool.and_true,Ar (show i < 9223372036854775807 by omega)]
     cases decide (0 < BL (CL l f ns[i]) l.length) <;> rfl
    ·obtain ⟨g,g1,a1,b1,n0,n1,d0,d1⟩:=Qt i1 i2 i3 i4
     have e2:Cu ⟨0,1⟩ (Ea l f ns[i]) = some (decide (0 < BL (CL l f ns[i]) l.length)):=by
      unfold Cu Ea
      simp only [Int.zero_mul,Int.mul_one]
      rw [wrap_i64 (n:=0) (by omega) (by omega),wrap_i64 (by omega) (by omega)]
      congr 1
      rw [decide_eq_decide]
      generalize (Hh (BL (CL l f ns[i]) l.length) (BL (Cs l ns[i]) l.length)).Num = A at *
      constructor
      ·intro h
       have:=Int.mul_pos (show 0 < g by omega) h
       omega
      ·intro h
       rcases Int.lt_or_le 0 A with c | c
       ·exact c
       ·have:A = 0:=by omega
        rw [this,Int.mul_zero] at a1; omega
     simp only [Bu,lt2,if_true,xs,AH,Int.toNat_natCast,gs,e2,Option.bind_some,Ak,hi,decide_true,Ch hi,Ar (show i < 9223372036854775807 by omega)]
     cases decide (0 < BL (CL l f ns[i]) l.length) <;> rfl
   ·obtain ⟨k1,k2,k3,k4⟩:=inb k hk
    have p1:0 ≤ BL (CL l f ns[k]) l.length * BL (Cs l ns[i]) l.length:=Int.mul_nonneg k1 (by omega)
    have p2:BL (CL l f ns[k]) l.length * BL (Cs l ns[i]) l.length ≤ 10000 * 10000:=Int.mul_le_mul k2 i4 (by omega) (by omega)
    have p3:0 ≤ BL (CL l f ns[i]) l.length * BL (Cs l ns[k]) l.length:=Int.mul_nonneg i1 (by omega)
    have p4:BL (CL l f ns[i]) l.length * BL (Cs l ns[k]) l.length ≤ 10000 * 10000:=Int.mul_le_mul i2 k4 (by omega) (by omega)
    refine ⟨decide (BL (CL l f ns[k]) l.length * BL (Cs l ns[i]) l.length < BL (CL l f ns[i]) l.length * BL (Cs l ns[k]) l.length),fun h => ?_,?_,?_⟩
    ·have h:=of_decide_eq_true h
     rcases Int.lt_or_le 0 (BL (CL l f ns[i]) l.length) with c | c
     ·omega
     ·have:BL (CL l f ns[i]) l.length = 0:=by omega
      rw [this,Int.zero_mul] at h; omega
    ·have e1:decide ((k:Int) < 0) = false:=decide_eq_false (by omega)
     simp only [Bt,lt1,if_true,xb i hi,xb k hk,xa i hi,xa k hk,AH,Int.toNat_natCast,gb i hi,gb k hk,ga i hi,ga k hk,e1,Bool.or_true,Bool.false_or,Ar (show i < 9223372036854775807 by omega)]
     rw [wrap_i64 (n:=BL (CL l f ns[k]) l.length * BL (Cs l ns[i]) l.length) (by omega) (by omega),wrap_i64 (n:=BL (CL l f ns[i]) l.length * BL (Cs l ns[k]) l.length) (by omega) (by omega)]
     have e2:(decide (0 < BL (CL l f ns[i]) l.length) && decide (BL (CL l f ns[k]) l.length * BL (Cs l ns[i]) l.length < BL (CL l f ns[i]) l.length * BL (Cs l ns[k]) l.length)) = decide (BL (CL l f ns[k]) l.length * BL (Cs l ns[i]) l.length < BL (CL l f ns[i]) l.length * BL (Cs l ns[k]) l.length):=by
      rcases Int.lt_or_le 0 (BL (CL l f ns[i]) l.length) with c | c
      ·simp [c]
      ·have hz:BL (CL l f ns[i]) l.length = 0:=by omega
       rw [hz,Int.zero_mul]
       have:¬ BL (CL l f ns[k]) l.length * BL (Cs l ns[i]) l.length < 0:=by omega
       simp [this]
     rw [e2]
     cases decide (BL (CL l f ns[k]) l.length * BL (Cs l ns[i]) l.length < BL (CL l f ns[i]) l.length * BL (Cs l ns[k]) l.length) <;> rfl
    ·have e2:=yD k1 k2 k3 k4 i1 i2 i3 i4
     simp only [Bu,lt2,if_true,xs,AH,Int.toNat_natCast,gs,show Ea l f ns[k] = Hh (BL (CL l f ns[k]) l.length) (BL (Cs l ns[k]) l.length) from rfl,show Ea l f ns[i] = Hh (BL (CL l f ns[i]) l.length) (BL (Cs l ns[i]) l.length) from rfl,e2,Option.bind_some,Ak,hi,decide_true,Ch hi,Ar (show i < 9223372036854775807 by omega)]
     cases decide (BL (CL l f ns[k]) l.length * BL (Cs l ns[i]) l.length < BL (CL l f ns[i]) l.length * BL (Cs l ns[k]) l.length) <;> rfl
  rw [DU hs,DU him]
  refine Ww hl hn hm d (i + 1) _ _ _ (by omega) ?_
  cases c
  ·exact hr
  ·exact .inr ⟨i,hi,rfl,rfl,rfl,hc rfl⟩
end
theorem PF {l:List AA} {f:List AJ} (hl:l.length ≤ 1048576) (hf:f.length ≤ 1048576):∃ r c,EU l f = some (r,c) ∧ Ec l f = some (r,c):=by
 unfold EU Ec
 rw [ci (by omega) (by omega),MP (by omega) (by omega)]
 simp only [Option.bind_some]
 have hcl:=nf (l:=l) (f:=f)
 generalize (if (CZ l && decide (l.length ≤ 100)) = true then (if FW l.length f = true then (0:Int) else 2) else 1) = q at hcl ⊢
 by_cases hq:q = 0
 ·have hl100:=hcl hq
  subst hq
  obtain ⟨ns,e1,e2,hs,hn,hm⟩:=ZT (l:=l) (by omega)
  simp only [beq_self_eq_true,Bool.not_true,Bool.false_eq_true,if_false]
  rw [TF (by omega) hf e2 (by omega) hm]
  unfold Fe
  rw [e1]
  simp only [Option.bind_some,Int.toNat_natCast]
  rw [jP (by omega) (by omega) (by omega),AH,Sw (by omega) hf hs (by omega) hm]
  simp only [Option.bind_some]
  obtain ⟨best,worst,most,w1,w2,hr⟩:=Ww (f:=f) hl100 (by omega) hm ns.length 0 (-1) [] ⟨0,1⟩ (by omega) (.inl ⟨rfl,rfl,rfl⟩)
  rw [show ((0:Nat):Int) = 0 from rfl] at w1 w2
  rw [w1,w2]
  simp only [Option.bind_some]
  rcases hr with ⟨rfl,rfl,rfl⟩ | ⟨k,hk,rfl,rfl,rfl,hk1⟩
  ·exact ⟨[],3,rfl,rfl⟩
  ·have a1:=Vn ((hm _).1 (List.getElem_mem hk))
   have a2:=Gg (Cs l ns[k]) l.length
   have b2:=Gg (CL l f ns[k]) l.length
   obtain ⟨g,g1,q1,_,n0,_⟩:=Qt (a:=BL (CL l f ns[k]) l.length) (b:=BL (Cs l ns[k]) l.length) (by omega) (by omega) a1 (by omega)
   have hnz:((Ea l f ns[k]).Num == 0) = false:=by
    rw [beq_eq_false_iff_ne]
    intro e
    have e':(Hh (BL (CL l f ns[k]) l.length) (BL (Cs l ns[k]) l.length)).Num = 0:=e
    rw [e',Int.mul_zero] at q1
    omega
   have e3:¬ (k:Int) < 0:=by omega
   simp only [e3,decide_false,Bool.false_eq_true,if_false,hnz,Int.toNat_natCast,Ak,hk,decide_true,AH,Ch hk]
   exact ⟨ns[k],0,rfl,rfl⟩
 ·have h:(!(q == 0)) = true:=by simpa using hq
  simp only [h,if_true]
  exact ⟨[],q,rfl,rfl⟩
end Go.Proofs.YtfaenphcgfocnaaGreatDoor
