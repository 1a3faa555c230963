/- Plain lemmas, several texts in one. No condition. -/
import Derived.Test.YthdmeanbdohehaaGreatDoorDKL
import Derived.Test.YthdmeanbdohehaaGreatDoorHPA
import Derived.Test.YthdmeanbdohehaaGreatDoorEngSH
import Derived.Test.YthdmeanbdohehaaGreatDoorEngSI
import Derived.Test.YthdmeanbdohehaaGreatDoorEngTD
namespace Go.Proofs.YthdmeanbdohehaaGreatDoor
open Go Go.RowKit
set_option linter.unusedSimpArgs false
set_option linter.unusedVariables false
theorem IS : ∀ (k u : Nat), u < 10 ^ (k + 1) → Lib.nDigits u ≤ k + 1
 | 0, u, h => by rw [Lib.nDigits_small (by simpa using h)]; omega
 | k + 1, u, h => by
  by_cases c : u < 10
  ·rw [Lib.nDigits_small c]; omega
  ·rw [Lib.nDigits_big c]
   have := IS k (u / 10) (by rw [Nat.pow_succ] at h; omega)
   omega
theorem HY {u : Nat} (h : u ≤ 9223372036854775808) : (Lib.decDigits u).length ≤ 20 := by
 rw [Lib.decDigits_length]
 exact IS 19 u (by omega)
theorem Hv (u : Nat) : 1 ≤ (Lib.decDigits u).length := by
 rw [Lib.decDigits_length]; exact Lib.nDigits_pos u
theorem JT {n : Int} (h : lL n) : (Lib.itoa n).length ≤ 21 := by
 obtain ⟨h1, h2⟩ := h
 unfold Lib.itoa
 split
 ·have := HY (u := n.natAbs) (by omega)
  simp; omega
 ·have := HY (u := n.toNat) (by omega)
  omega
theorem UN {d : Nat} (h : d < 10) : cE (IntKind.u8.wrap (IntKind.i64.wrap (48 + (d : Int)))) = UInt8.ofNat (48 + d) := by
 have : d = 0 ∨ d = 1 ∨ d = 2 ∨ d = 3 ∨ d = 4 ∨ d = 5 ∨ d = 6 ∨ d = 7 ∨ d = 8 ∨ d = 9 := by omega
 rcases this with rfl | rfl | rfl | rfl | rfl | rfl | rfl | rfl | rfl | rfl <;> decide +kernel
def rq (n : Int) (m : Nat) (s : List UInt8 × Int) : Prop :=
 ∃ u : Nat, s.2 = (if n < 0 then -(u : Int) else (u : Int)) ∧ u ≤ m ∧ (if u = 0 then s.1 = Lib.decDigits m else Lib.decDigits m = Lib.decDigits u ++ s.1)
theorem kW {n : Int} {m : Nat} (hm : m ≤ 9223372036854775808) {out : List UInt8} {u : Nat} (hu : u ≤ m) (h0 : u ≠ 0) (h : Lib.decDigits m = Lib.decDigits u ++ out) :
  Ch n (out, if n < 0 then -(u : Int) else (u : Int)) = some (.inl (UInt8.ofNat (48 + u % 10) :: out, if n < 0 then -((u / 10 : Nat) : Int) else ((u / 10 : Nat) : Int))) ∧
  (if u / 10 = 0 then UInt8.ofNat (48 + u % 10) :: out = Lib.decDigits m else Lib.decDigits m = Lib.decDigits (u / 10) ++ UInt8.ofNat (48 + u % 10) :: out) := by
 have hl : out.length ≤ 20 := by
  have := HY hm
  rw [h, List.length_append] at this; omega
 constructor
 ·have t1 : ((u : Int)).tmod 10 = ((u % 10 : Nat) : Int) := by rw [Int.tmod_eq_emod_of_nonneg (by omega)]; omega
  have t2 : ((u : Int)).tdiv 10 = ((u / 10 : Nat) : Int) := by rw [Int.tdiv_eq_ediv_of_nonneg (by omega)]; omega
  have w : IntKind.i64.wrap ((u % 10 : Nat) : Int) = ((u % 10 : Nat) : Int) := AX (by omega) (by omega)
  have ha : Cr (([UInt8.ofNat (48 + u % 10)] : List UInt8).length + out.length) 1 = true := Bu (by simp; omega)
  by_cases hn : n < 0
  ·have k0 : ((-(u : Int)) == 0) = false := by rw [beq_eq_false_iff_ne]; omega
   have w2 : IntKind.i64.wrap (-((u / 10 : Nat) : Int)) = -((u / 10 : Nat) : Int) := AX (by omega) (by omega)
   simp only [Ch, hn, if_true, k0, Bool.not_false, bL (show (10 : Int) ≠ 0 by decide), AN, Int.neg_tmod, Int.neg_tdiv, t1, t2, w2]
   by_cases hd : u % 10 = 0
   ·have e : ¬ (-(((u % 10 : Nat)) : Int) < 0) := by omega
    simp only [e, decide_false, Bool.false_eq_true, if_false]
    have e2 : (-((u % 10 : Nat) : Int)) = ((u % 10 : Nat) : Int) := by omega
    rw [e2, UN (Nat.mod_lt _ (by omega)), ha, AN]; rfl
   ·have e : (-(((u % 10 : Nat)) : Int) < 0) := by omega
    have e2 : (0 - -((u % 10 : Nat) : Int)) = ((u % 10 : Nat) : Int) := by omega
    simp only [e, decide_true, if_true, e2, w]
    rw [UN (Nat.mod_lt _ (by omega)), ha, AN]; rfl
  ·have k0 : ((u : Int) == 0) = false := by rw [beq_eq_false_iff_ne]; omega
   have w2 : IntKind.i64.wrap ((u / 10 : Nat) : Int) = ((u / 10 : Nat) : Int) := AX (by omega) (by omega)
   have e : ¬ ((((u % 10 : Nat)) : Int) < 0) := by omega
   simp only [Ch, hn, if_false, k0, Bool.not_false, if_true, bL (show (10 : Int) ≠ 0 by decide), AN, t1, t2, w2, e, decide_false, Bool.false_eq_true]
   rw [UN (Nat.mod_lt _ (by omega)), ha, AN]; rfl
 ·by_cases c : u < 10
  ·have e : u / 10 = 0 := by omega
   rw [if_pos e, h, Lib.decDigits_one c, Nat.mod_eq_of_lt c]; rfl
  ·have e : ¬ u / 10 = 0 := by omega
   rw [if_neg e, h, Lib.decDigits, dif_neg c, List.append_assoc]; rfl
theorem IE {n : Int} (hr : lL n) : Cl n = some (Lib.itoa n) := by
 obtain ⟨h1, h2⟩ := hr
 by_cases h0 : n = 0
 ·subst h0
  unfold Cl
  rw [Ae (r := ([] : List UInt8)) (by simp [Ch])]
  simp [Lib.itoa, Lib.decDigits]
 ·obtain ⟨m, hm, hm0, hmn⟩ : ∃ m : Nat, m ≤ 9223372036854775808 ∧ m ≠ 0 ∧ n = (if n < 0 then -(m : Int) else (m : Int)) := by
   by_cases hn : n < 0
   ·exact ⟨n.natAbs, by omega, by omega, by rw [if_pos hn]; omega⟩
   ·exact ⟨n.toNat, by omega, by omega, by rw [if_neg hn]; omega⟩
  have hw : AJ (Ch n) (([] : List UInt8), n) = some (Lib.decDigits m) := by
   obtain ⟨y, hy, hq⟩ := II (step := Ch n) (rq n m) (fun y => y = Lib.decDigits m) (fun s => s.2.natAbs) (by
    rintro ⟨out, k⟩ ⟨u, hk, hu, hd⟩
    simp only at hk hd
    subst hk
    by_cases hu0 : u = 0
    ·subst hu0
     right
     rw [if_pos rfl] at hd
     refine ⟨out, ?_, hd⟩
     split <;> simp [Ch]
    ·left
     rw [if_neg hu0] at hd
     obtain ⟨e1, e2⟩ := kW (n := n) hm hu hu0 hd
     refine ⟨_, e1, ⟨u / 10, rfl, by omega, e2⟩, ?_⟩
     show Int.natAbs (if n < 0 then _ else _) < Int.natAbs (if n < 0 then _ else _)
     split <;> omega) (s := (([] : List UInt8), n)) ⟨m, hmn, Nat.le_refl _, by rw [if_neg hm0, List.append_nil]⟩
   rw [hy, hq]
  unfold Cl
  rw [hw]
  have hl1 := Hv m
  have hl2 := HY hm
  have e : (((Lib.decDigits m).length : Int) == 0) = false := by rw [beq_eq_false_iff_ne]; omega
  simp only [Option.bind_some, e, Bool.false_eq_true, if_false]
  unfold Lib.itoa
  by_cases hn : n < 0
  ·rw [if_pos hn] at hmn
   have e2 : n.natAbs = m := by omega
   simp only [hn, decide_true, if_true, e2]
   rw [Hh (by simp; omega), AN]; rfl
  ·rw [if_neg hn] at hmn
   have e2 : n.toNat = m := by omega
   simp [hn, e2]
theorem Um {n : Int} (hr : lL n) : GD n = some (Lib.itoa n) := by
 obtain ⟨h1, h2⟩ := hr
 unfold GD FZ nS
 simp [h1, h2]
end Go.Proofs.YthdmeanbdohehaaGreatDoor
namespace Go.Proofs.YthdmeanbdohehaaGreatDoor
open Go Go.RowKit
set_option linter.unusedSimpArgs false
set_option linter.unusedVariables false
def Bm (c : UInt8) : List UInt8 → List UInt8 → List (List UInt8)
 | acc, [] => [acc]
 | acc, x :: r => if x = c then acc :: Bm c [] r else Bm c (acc ++ [x]) r
def CP (c : UInt8) (s : List UInt8) : List (List UInt8) := Bm c [] s
theorem Ke {c : UInt8} : ∀ {s acc : List UInt8}, c ∉ s → Bm c acc s = [acc ++ s]
 | [], acc, _ => by simp [Bm]
 | x :: r, acc, h => by
  have hx : x ≠ c := fun e => h (by simp [e])
  rw [Bm, if_neg hx, Ke (fun hm => h (by simp [hm])), List.append_assoc]; rfl
theorem Gm {c : UInt8} : ∀ {a acc b : List UInt8}, c ∉ a → Bm c acc (a ++ c :: b) = (acc ++ a) :: Bm c [] b
 | [], acc, b, _ => by simp [Bm]
 | x :: r, acc, b, h => by
  have hx : x ≠ c := fun e => h (by simp [e])
  rw [List.cons_append, Bm, if_neg hx, Gm (fun hm => h (by simp [hm])), List.append_assoc]; rfl
theorem Pp (c : UInt8) : ∀ s acc : List UInt8, Bm c acc s ≠ []
 | [], acc => by simp [Bm]
 | x :: r, acc => by
  rw [Bm]
  split
  ·simp
  ·exact Pp c r _
theorem Jr (c : UInt8) : ∀ s acc : List UInt8, 1 ≤ (Bm c acc s).length ∧ (Bm c acc s).length ≤ s.length + 1
 | [], acc => by simp [Bm]
 | x :: r, acc => by
  rw [Bm]
  split
  ·have := Jr c r []
   simp only [List.length_cons]; omega
  ·have := Jr c r (acc ++ [x])
   simp only [List.length_cons]; omega
def Eh (c : UInt8) : List (List UInt8) → List UInt8
 | [] => []
 | [a] => a
 | a :: b :: r => a ++ c :: Eh c (b :: r)
theorem JD (c : UInt8) : ∀ s acc : List UInt8, Eh c (Bm c acc s) = acc ++ s
 | [], acc => by simp [Bm, Eh]
 | x :: r, acc => by
  rw [Bm]
  split
  ·rename_i e
   have h := JD c r []
   cases hs : Bm c [] r with
   | nil => exact absurd hs (Pp c r [])
   | cons b t => rw [hs] at h; rw [Eh, h, e]; rfl
  ·rw [JD c r (acc ++ [x]), List.append_assoc]; rfl
theorem VL (c : UInt8) : ∀ {s acc : List UInt8}, c ∉ acc → ∀ p ∈ Bm c acc s, c ∉ p
 | [], acc, h, p, hp => by simp [Bm] at hp; rw [hp]; exact h
 | x :: r, acc, h, p, hp => by
  rw [Bm] at hp
  split at hp
  ·rcases List.mem_cons.1 hp with e | hp
   ·rw [e]; exact h
   ·exact VL c (by simp) p hp
  ·rename_i hx
   exact VL c (by simp only [List.mem_append, List.mem_singleton, not_or]; exact ⟨h, fun e => hx e.symm⟩) p hp
theorem MI (c : UInt8) : ∀ (l : List (List UInt8)), l ≠ [] → (∀ p ∈ l, c ∉ p) → CP c (Eh c l) = l
 | [], h, _ => absurd rfl h
 | [a], _, h => by
  unfold CP Eh
  rw [Ke (h a (by simp))]; rfl
 | a :: b :: r, _, h => by
  have ih := MI c (b :: r) (by simp) (fun p hp => h p (by simp [hp]))
  unfold CP at ih ⊢
  rw [Eh, Gm (h a (by simp)), ih]; rfl
theorem IF (c : UInt8) : ∀ s : List UInt8, (Lib.index s [c] = -1 ∧ c ∉ s) ∨ ∃ a b, s = a ++ c :: b ∧ c ∉ a ∧ Lib.index s [c] = a.length
 | [] => .inl ⟨by simp [Lib.index], by simp⟩
 | x :: r => by
  unfold Lib.index
  by_cases e : x = c
  ·subst e
   exact .inr ⟨[], r, rfl, by simp, by simp⟩
  ·have e1 : (List.isPrefixOf [c] (x :: r)) = false := by
    simp only [List.isPrefixOf, Bool.and_true, beq_eq_false_iff_ne]; exact fun h => e h.symm
   rw [e1]
   rcases IF c r with ⟨h1, h2⟩ | ⟨a, b, rfl, h2, h3⟩
   ·exact .inl ⟨by simp [h1], by simp only [List.mem_cons, not_or]; exact ⟨fun h => e h.symm, h2⟩⟩
   ·refine .inr ⟨x :: a, b, rfl, by simp only [List.mem_cons, not_or]; exact ⟨fun h => e h.symm, h2⟩, ?_⟩
    rw [h3]
    have : (((a.length : Int)) == -1) = false := by rw [beq_eq_false_iff_ne]; omega
    simp [this]
theorem ka {c : UInt8} {s : List UInt8} (h : c ∉ s) : Lib.cut s [c] = (s, [], false) := by
 rcases IF c s with ⟨h1, _⟩ | ⟨a, b, rfl, _, _⟩
 ·unfold Lib.cut; rw [h1, if_neg (by decide)]
 ·exact absurd (by simp) h
theorem bm {c : UInt8} {a b : List UInt8} (h : c ∉ a) : Lib.cut (a ++ c :: b) [c] = (a, b, true) := by
 rcases IF c (a ++ c :: b) with ⟨_, h2⟩ | ⟨a', b', e, h2, h3⟩
 ·exact absurd (by simp) h2
 ·have ha : a' = a ∧ b' = b := by
   have s1 := Gm (acc := []) (b := b) h
   have s2 := Gm (acc := []) (b := b') h2
   rw [e, s2] at s1
   have : [] ++ a' = [] ++ a := (List.cons.inj s1).1
   have hab : a' = a := by simpa using this
   subst hab
   exact ⟨rfl, ((List.cons.inj (List.append_cancel_left e)).2).symm⟩
  obtain ⟨rfl, rfl⟩ := ha
  unfold Lib.cut
  rw [h3, if_pos (by omega)]
  simp
theorem cQ (c : UInt8) : ∀ (k : Nat) (s : List UInt8), s.count c = k → Lib.splitK [c] 0 k s = CP c s := by
 intro k
 induction k with
 | zero =>
  intro s h
  have hc : c ∉ s := List.count_eq_zero.1 h
  unfold CP
  rw [Ke hc]; rfl
 | succ k ih =>
  intro s h
  rcases IF c s with ⟨h1, h2⟩ | ⟨a, b, rfl, h2, h3⟩
  ·rw [List.count_eq_zero.2 h2] at h; omega
  ·unfold Lib.splitK
   have hne : ((a.length : Int) == -1) = false := by rw [beq_eq_false_iff_ne]; omega
   rw [h3]
   simp only [hne, Bool.false_eq_true, if_false]
   have hcnt : b.count c = k := by
    rw [List.count_append, List.count_eq_zero.2 h2, List.count_cons_self] at h; omega
   have e1 : (a ++ c :: b).take ((a.length : Int).toNat + 0) = a := by simp
   have e2 : (a ++ c :: b).drop ((a.length : Int).toNat + ([c] : List UInt8).length) = b := by simp
   unfold CP
   rw [Gm h2]
   first
    | rw [e1, e2, ih b hcnt]
    | (rw [e2, ih b hcnt]; simp [CP])
   rfl
theorem dd (c : UInt8) : ∀ (f : Nat) (s : List UInt8), s.length < f → Lib.countFrom [c] f s = s.count c := by
 intro f
 induction f with
 | zero => intro s h; omega
 | succ f ih =>
  intro s h
  unfold Lib.countFrom
  rcases IF c s with ⟨h1, h2⟩ | ⟨a, b, rfl, h2, h3⟩
  ·simp [h1, List.count_eq_zero.2 h2]
  ·have hne : ((a.length : Int) == -1) = false := by rw [beq_eq_false_iff_ne]; omega
   rw [h3]
   simp only [hne, Bool.false_eq_true, if_false]
   have e2 : (a ++ c :: b).drop ((a.length : Int).toNat + ([c] : List UInt8).length) = b := by simp
   rw [e2, ih b (by simp at h; omega), List.count_append, List.count_eq_zero.2 h2, List.count_cons_self]
   omega
theorem fg (c : UInt8) (s : List UInt8) : Lib.split s [c] = CP c s := by
 unfold Lib.split Lib.count
 rw [dd c _ s (by omega)]
 exact cQ c _ s rfl
theorem rm {c : UInt8} {s : List UInt8} (h : s.length < 4294967281) : XB s [c] = some (CP c s) := by
 unfold XB
 rw [fg]
 simp [h]
theorem uX {c : UInt8} {s : List UInt8} (h : s.length < 4294967281) : Yj s [c] = some (Lib.cut s [c]) := by
 unfold Yj; rw [if_pos h]
def QD (c : UInt8) : Bool := decide (48 ≤ (c.toNat : Int)) && decide ((c.toNat : Int) ≤ 57)
theorem Io {c : UInt8} : QD c = true ↔ 48 ≤ c.toNat ∧ c.toNat ≤ 57 := by
 unfold QD
 simp only [Bool.and_eq_true, decide_eq_true_eq]
 omega
def valF (n : Nat) (l : List UInt8) : Nat := l.foldl (fun n c => n * 10 + (c.toNat - 48)) n
theorem JL (n : Nat) : valF n [] = n := by unfold valF; rw [List.foldl_nil]
theorem IB (n : Nat) (c : UInt8) (r : List UInt8) : valF n (c :: r) = valF (n * 10 + (c.toNat - 48)) r := by unfold valF; rw [List.foldl_cons]
theorem LO {l : List UInt8} : ∀ {n a : Nat}, n < 10 ^ a → l.all QD = true → valF n l < 10 ^ (a + l.length) := by
 induction l with
 | nil => intro n a h _; rw [JL]; exact h
 | cons c r ih =>
  intro n a h hd
  simp only [List.all_cons, Bool.and_eq_true] at hd
  have hc := Io.1 hd.1
  have h2 : n * 10 + (c.toNat - 48) < 10 ^ (a + 1) := by rw [Nat.pow_succ]; omega
  have := ih h2 hd.2
  rw [IB, List.length_cons]
  rwa [Nat.add_assoc, Nat.add_comm 1] at this
theorem GA {k : Nat} (h : k ≤ 18) : (10 : Nat) ^ k ≤ 1000000000000000000 := Nat.pow_le_pow_right (by omega) h
def uH := Lib.parseUintM 0 0 [0]
theorem NH {l : List UInt8} : ∀ {n a : Nat}, n < 10 ^ a → a + l.length ≤ 18 → Lib.parseUintM (2 ^ 64 - 1) n l = if l.all QD = true then .ok (valF n l) else uH := by
 induction l with
 | nil => intro n a _ _; simp [Lib.parseUintM, JL]
 | cons c r ih =>
  intro n a h hl
  rw [List.length_cons] at hl
  have hp := GA (show a ≤ 18 by omega)
  have hp1 := GA (show a + 1 ≤ 18 by omega)
  rw [Lib.parseUintM]
  by_cases hc : 48 ≤ c.toNat ∧ c.toNat ≤ 57
  ·have h2 : n * 10 + (c.toNat - 48) < 10 ^ (a + 1) := by rw [Nat.pow_succ]; omega
   rw [if_pos hc, if_neg (by omega), if_neg (by omega), ih h2 (by omega)]
   simp only [List.all_cons, Io.2 hc, Bool.true_and, IB]
  ·rw [if_neg hc]
   have : QD c = false := by
    cases hd : QD c with
    | false => rfl
    | true => exact absurd (Io.1 hd) hc
   simp only [List.all_cons, this, Bool.false_and, Bool.false_eq_true, if_false]
   rfl
theorem bj : ∀ (k u : Nat), u < 10 ^ (k + 1) → (Lib.decDigits u).all QD = true
 | 0, u, h => by
  have h : u < 10 := by simpa using h
  rw [Lib.decDigits_one h]
  simp only [List.all_cons, List.all_nil, Bool.and_true, Io, UInt8.toNat_ofNat']
  omega
 | k + 1, u, h => by
  by_cases c : u < 10
  ·rw [Lib.decDigits_one c]
   simp only [List.all_cons, List.all_nil, Bool.and_true, Io, UInt8.toNat_ofNat']
   omega
  ·rw [Lib.decDigits, dif_neg c, List.all_append, bj k (u / 10) (by rw [Nat.pow_succ] at h; omega)]
   simp only [List.all_cons, List.all_nil, Bool.and_true, Bool.true_and, Io, UInt8.toNat_ofNat']
   omega
theorem OV (u : Nat) : (Lib.decDigits u).all QD = true := bj u u (Nat.lt_of_lt_of_le (Nat.lt_pow_self (by omega)) (Nat.pow_le_pow_right (by omega) (by omega)))
theorem dE (n : Int) (r : List UInt8) : Lib.itoa n ≠ 43 :: r := by
 intro h
 unfold Lib.itoa at h
 split at h
 ·have := (List.cons.inj h).1
  exact absurd this (by decide)
 ·have := OV n.toNat
  rw [h] at this
  simp [QD] at this
theorem Zg (r : List UInt8) : Lib.trimPrefix (45 :: r) [45] = r := by simp [Lib.trimPrefix, Lib.hasPrefix]
theorem Zf {c : UInt8} {r : List UInt8} (h : c ≠ 45) : Lib.trimPrefix (c :: r) [45] = c :: r := by
 unfold Lib.trimPrefix Lib.hasPrefix
 have : (List.isPrefixOf [45] (c :: r)) = false := by
  simp only [List.isPrefixOf, Bool.and_true, beq_eq_false_iff_ne]; exact fun e => h e.symm
 simp [this]
theorem Kk {r : List UInt8} : Cm (45 :: r) = if r.length < 1 ∨ 18 < r.length then (0, false) else if r.all QD = true then (if Lib.itoa (-(valF 0 r : Int)) = 45 :: r then (-(valF 0 r : Int), true) else (0, false)) else (0, false) := by
 unfold Cm
 rw [Zg]
 by_cases h : r.length < 1 ∨ 18 < r.length
 ·rw [if_pos h, if_pos h]
 ·rw [if_neg h, if_neg h]
  have hne : r ≠ [] := fun e => h (.inl (by simp [e]))
  have hp := NH (l := r) (n := 0) (a := 0) (by simp) (by omega)
  have e43 : ((45 : UInt8).toNat = 43 ∨ (45 : UInt8).toNat = 45) := .inr rfl
  unfold Lib.parseIntB
  simp only [e43, if_true, Lib.parseUintB, hne, if_false, hp]
  by_cases hd : r.all QD = true
  ·have hv := LO (l := r) (n := 0) (a := 0) (by simp) hd
   have hv2 := GA (k := 0 + r.length) (by omega)
   have e45 : ((45 : UInt8).toNat = 45) := rfl
   have n2 : ¬ (2 ^ (64 - 1) < valF 0 r) := by omega
   simp only [hd, if_true, e45, not_true_eq_false, false_and, if_false, true_and, n2]
  ·simp only [hd, Bool.false_eq_true, if_false]
   rfl
theorem Ij {c : UInt8} {r : List UInt8} (hc : c ≠ 45) : Cm (c :: r) = if (c :: r).length < 1 ∨ 18 < (c :: r).length then (0, false) else if (c :: r).all QD = true then (if Lib.itoa (valF 0 (c :: r) : Int) = c :: r then ((valF 0 (c :: r) : Int), true) else (0, false)) else (0, false) := by
 unfold Cm
 rw [Zf hc]
 by_cases h : (c :: r).length < 1 ∨ 18 < (c :: r).length
 ·rw [if_pos h, if_pos h]
 ·rw [if_neg h, if_neg h]
  have e45 : ¬ (c.toNat = 45) := fun e => hc (by rw [← UInt8.toNat_inj]; exact e)
  by_cases h43 : c = 43
  ·subst h43
   have hd : ((43 : UInt8) :: r).all QD = false := by simp [QD]
   rw [hd]
   simp only [Bool.false_eq_true, if_false]
   rcases hp : Lib.parseIntB 64 (43 :: r) with v | _ | _
   ·simp only [if_neg (dE v r)]
   ·rfl
   ·rfl
  ·have e43 : ¬ (c.toNat = 43 ∨ c.toNat = 45) := fun e => by
    rcases e with e | e
    ·exact h43 (by rw [← UInt8.toNat_inj]; exact e)
    ·exact e45 e
   have hp := NH (l := c :: r) (n := 0) (a := 0) (by simp) (by omega)
   unfold Lib.parseIntB
   simp only [e43, if_false, Lib.parseUintB, List.cons_ne_nil, hp]
   by_cases hd : (c :: r).all QD = true
   ·have hv := LO (l := c :: r) (n := 0) (a := 0) (by simp) hd
    have hv2 := GA (k := 0 + (c :: r).length) (by omega)
    have n1 : ¬ (2 ^ (64 - 1) ≤ valF 0 (c :: r)) := by omega
    simp only [hd, if_true, e45, not_false_eq_true, true_and, n1, false_and, if_false]
   ·simp only [hd, Bool.false_eq_true, if_false]
    rfl
end Go.Proofs.YthdmeanbdohehaaGreatDoor
namespace Go.Proofs.YthdmeanbdohehaaGreatDoor
open Go Go.RowKit
set_option linter.unusedSimpArgs false
set_option linter.unusedVariables false
theorem kZ {s : List UInt8} {i : Nat} : cut s (i : Int) (i : Int) = [] := by
 simp [cut]
theorem kY {s : List UInt8} {a i : Nat} (h : a ≤ i) (hi : i < s.length) : cut s (a : Int) ((i + 1 : Nat) : Int) = cut s (a : Int) (i : Int) ++ [s[i]] := by
 simp only [cut, Int.toNat_natCast]
 rw [List.take_add_one, List.getElem?_eq_getElem hi, List.drop_append_of_le_length (by simp; omega)]
 rfl
theorem Pt {s : List UInt8} (c : UInt8) (hl : s.length ≤ 1048576) : FP s c = some (CP c s) := by
 unfold FP
 obtain ⟨y, hy, hq⟩ := II (step := DN s c) (fun st => ∃ a i : Nat, st.2.1 = (a : Int) ∧ st.2.2 = (i : Int) ∧ a ≤ i ∧ i ≤ s.length ∧ st.1.length ≤ i ∧ st.1 ++ Bm c (cut s (a : Int) (i : Int)) (s.drop i) = CP c s)
  (fun y => ∃ a : Nat, y.2 = (a : Int) ∧ a ≤ s.length ∧ y.1.length ≤ s.length ∧ y.1 ++ [cut s (a : Int) (s.length : Int)] = CP c s) (fun st => s.length - st.2.2.toNat) (by
  rintro ⟨out, fr, ii⟩ ⟨a, i, h1, h2, hai, hi, ho, he⟩
  simp only at h1 h2 ho he
  subst h1 h2
  by_cases hlt : i < s.length
  ·left
   have hd : s.drop i = s[i] :: s.drop (i + 1) := List.drop_eq_getElem_cons hlt
   have hg : s.getD i 0 = s[i] := CR hlt 0
   rw [hd, Bm] at he
   have hc2 : ((s[i].toNat : Int) == (c.toNat : Int)) = decide (s[i] = c) := by
    rw [Bool.eq_iff_iff]; simp only [beq_iff_eq, decide_eq_true_eq, ← UInt8.toNat_inj]; omega
   by_cases hc : s[i] = c
   ·rw [if_pos hc] at he
    refine ⟨(out ++ [cut s (a : Int) (i : Int)], ((i + 1 : Nat) : Int), ((i + 1 : Nat) : Int)), ?_, ⟨i + 1, i + 1, rfl, rfl, Nat.le_refl _, by omega, by simp; omega, ?_⟩, by simp; omega⟩
    ·simp only [DN, Int.ofNat_lt, hlt, decide_true, if_true, Bp, AN, Int.toNat_natCast, hg, hc, beq_self_eq_true, BR (show i < 9223372036854775807 by omega)]
     rw [Ib (by omega) (by omega) (by omega), AN, Bu (by simp; omega), AN]
    ·simp only
     rw [kZ, List.append_assoc]
     exact he
   ·rw [if_neg hc] at he
    refine ⟨(out, (a : Int), ((i + 1 : Nat) : Int)), ?_, ⟨a, i + 1, rfl, rfl, by omega, by omega, by show out.length ≤ i + 1; omega, ?_⟩, by simp; omega⟩
    ·simp only [DN, Int.ofNat_lt, hlt, decide_true, if_true, Bp, AN, Int.toNat_natCast, hg, hc2, hc, decide_false, Bool.false_eq_true, if_false, BR (show i < 9223372036854775807 by omega)]
    ·simp only
     rw [kY hai hlt]
     exact he
  ·right
   have hie : i = s.length := by omega
   subst hie
   refine ⟨(out, (a : Int)), by simp [DN], a, rfl, hai, ho, ?_⟩
   rw [List.drop_length, Bm] at he
   exact he) (s := (([] : List (List UInt8)), 0, 0)) ⟨0, 0, rfl, rfl, Nat.le_refl _, Nat.zero_le _, by simp, by simp [cut, CP]⟩
 obtain ⟨a, h1, h2, h3, h4⟩ := hq
 obtain ⟨o, y2⟩ := y
 simp only at h1 h3 h4
 subst h1
 rw [hy]
 simp only [Option.bind_some]
 rw [Ib (by omega) (by omega) (by omega), AN, Bu (by simp; omega), AN, h4]
theorem Pu (c : UInt8) : GQ c = some (QD c) := id rfl
theorem kU {c : UInt8} (h : QD c = true) {n : Nat} (hn : n ≤ 100000000000000000) : IntKind.i64.wrap ((IntKind.i64.wrap (10 * (n : Int))) + (IntKind.i64.wrap (IntKind.u8.wrap ((c.toNat : Int) - 48)))) = ((n * 10 + (c.toNat - 48) : Nat) : Int) := by
 have hc := Io.1 h
 have e1 : IntKind.u8.wrap ((c.toNat : Int) - 48) = ((c.toNat - 48 : Nat) : Int) := by
  have : ((c.toNat : Int) - 48) = ((c.toNat - 48 : Nat) : Int) := by omega
  rw [this]; exact au (by omega) (by omega)
 rw [e1, AX (n := 10 * (n : Int)) (by omega) (by omega), AX (n := ((c.toNat - 48 : Nat) : Int)) (by omega) (by omega), AX (by omega) (by omega)]
 omega
theorem YN (s t : List UInt8) (ht : t.length ≤ 18) : ∀ (r : List UInt8) (i n : Nat), t.drop i = r → i + r.length = t.length → n < 10 ^ i →
  AJ (Cd s t) ((n : Int), (i : Int)) = some (if r.all QD = true then .inl ((valF n r : Nat) : Int) else .inr (0, false)) := by
 intro r
 induction r with
 | nil =>
  intro i n hd hi _
  have : i = t.length := by simpa using hi
  subst this
  refine Ae ?_
  simp [Cd, JL]
 | cons c r ih =>
  intro i n hd hi hn
  rw [List.length_cons] at hi
  have hlt : i < t.length := by omega
  have hc : t.getD i 0 = c := by
   rw [List.getD_eq_getElem?_getD]
   have : (t.drop i)[0]? = some c := by rw [hd]; rfl
   rw [List.getElem?_drop, Nat.add_zero] at this
   rw [this]; rfl
  have hd2 : t.drop (i + 1) = r := by
   have := congrArg List.tail hd
   rwa [List.tail_drop] at this
  by_cases hg : QD c = true
  ·have hp := GA (show i ≤ 17 + 1 by omega)
   have hp17 : (10 : Nat) ^ i ≤ 10 ^ 17 := Nat.pow_le_pow_right (by omega) (by omega)
   have hcd := Io.1 hg
   rw [Ah (s' := (((n * 10 + (c.toNat - 48) : Nat) : Int), ((i + 1 : Nat) : Int))) (by
    simp only [Cd, Int.ofNat_lt, hlt, decide_true, if_true, Bp, AN, Int.toNat_natCast, hc, Pu, hg, Option.bind_some, Bool.not_true, Bool.false_eq_true, if_false, BR (show i < 9223372036854775807 by omega), kU hg (show n ≤ 100000000000000000 by omega)])]
   rw [ih (i + 1) (n * 10 + (c.toNat - 48)) hd2 (by omega) (by rw [Nat.pow_succ]; omega)]
   simp only [List.all_cons, hg, Bool.true_and, IB]
  ·have hg2 : QD c = false := by simpa using hg
   rw [Ae (r := .inr (0, false)) (by
    simp only [Cd, Int.ofNat_lt, hlt, decide_true, if_true, Bp, AN, Int.toNat_natCast, hc, Pu, hg2, Option.bind_some, Bool.not_false])]
   simp only [List.all_cons, hg2, Bool.false_and, Bool.false_eq_true, if_false]
theorem ci : Fa = Cd := id rfl
theorem Nn {s : List UInt8} (hl : s.length ≤ 1048576) : El s = some (Cm s) := by
 unfold El
 cases s with
 | nil => simp [Cm, Lib.trimPrefix, Lib.hasPrefix, AN]
 | cons c r =>
  have h0 : ((c :: r) == ([] : List UInt8)) = false := rfl
  have h1 : BB 0 (c :: r).length = true := DL (by omega) (by simp)
  have hc2 : ((((c :: r).getD 0 0).toNat : Int) == 45) = decide (c = 45) := by
   rw [Bool.eq_iff_iff]; simp only [List.getD_cons_zero, beq_iff_eq, decide_eq_true_eq, ← UInt8.toNat_inj]
   show (c.toNat : Int) = 45 ↔ c.toNat = 45
   omega
  simp only [h0, h1, Bool.or_true, AN, Bool.not_false, Bool.true_and, hc2]
  by_cases hc : c = 45
  ·subst hc
   simp only [decide_true, if_true]
   have hcut : cut ((45 : UInt8) :: r) 1 ((((45 : UInt8) :: r).length : Nat) : Int) = r := by simp [cut]
   rw [Ib (by omega) (by simp; omega) (by omega), AN, hcut, Kk]
   by_cases hb : r.length < 1 ∨ 18 < r.length
   ·have e : (decide ((r.length : Int) < 1) || decide (18 < (r.length : Int))) = true := by simp; omega
    rw [if_pos hb, e]; rfl
   ·have e : (decide ((r.length : Int) < 1) || decide (18 < (r.length : Int))) = false := by simp; omega
    rw [if_neg hb, e]
    simp only [Bool.false_eq_true, if_false]
    have hlp := YN ((45 : UInt8) :: r) r (by omega) r 0 0 rfl (by omega) (by simp)
    rw [show ((0 : Nat) : Int) = 0 from rfl] at hlp
    rw [hlp]
    by_cases hd : r.all QD = true
    ·have hv := LO (l := r) (n := 0) (a := 0) (by simp) hd
     have hv2 := GA (k := 0 + r.length) (by omega)
     have w : IntKind.i64.wrap (0 - ((valF 0 r : Nat) : Int)) = -((valF 0 r : Nat) : Int) := by rw [AX (by omega) (by omega)]; omega
     have lt : decide ((r.length : Int) < (((45 : UInt8) :: r).length : Nat)) = true := by simp; omega
     simp only [hd, if_true, Option.bind_some, w, lt, IE (n := -((valF 0 r : Nat) : Int)) ⟨by omega, by omega⟩]
     by_cases he : Lib.itoa (-((valF 0 r : Nat) : Int)) = 45 :: r
     ·have : (Lib.itoa (-((valF 0 r : Nat) : Int)) == 45 :: r) = true := by simpa using he
      simp only [he, beq_self_eq_true, Bool.not_true, Bool.false_eq_true, if_false, if_true]
     ·have : (Lib.itoa (-((valF 0 r : Nat) : Int)) == 45 :: r) = false := by simpa using he
      simp only [this, he, Bool.not_false, if_true, if_false]
    ·simp only [hd, Bool.false_eq_true, if_false, Option.bind_some]
  ·simp only [hc, decide_false, Bool.false_eq_true, if_false]
   rw [Ij hc]
   by_cases hb : (c :: r).length < 1 ∨ 18 < (c :: r).length
   ·have e : (decide (((c :: r).length : Int) < 1) || decide (18 < ((c :: r).length : Int))) = true := by simp at hb ⊢; omega
    rw [if_pos hb, e]; rfl
   ·have e : (decide (((c :: r).length : Int) < 1) || decide (18 < ((c :: r).length : Int))) = false := by simp at hb ⊢; omega
    rw [if_neg hb, e]
    simp only [Bool.false_eq_true, if_false, ci]
    have hlp := YN (c :: r) (c :: r) (by omega) (c :: r) 0 0 rfl (by omega) (by simp)
    rw [show ((0 : Nat) : Int) = 0 from rfl] at hlp
    rw [hlp]
    by_cases hd : (c :: r).all QD = true
    ·have hv := LO (l := c :: r) (n := 0) (a := 0) (by simp) hd
     have hv2 := GA (k := 0 + (c :: r).length) (by omega)
     have lt : decide (((c :: r).length : Int) < ((c :: r).length : Int)) = false := by simp
     simp only [hd, if_true, Option.bind_some, lt, Bool.false_eq_true, if_false, IE (n := ((valF 0 (c :: r) : Nat) : Int)) ⟨by omega, by omega⟩]
     by_cases he : Lib.itoa ((valF 0 (c :: r) : Nat) : Int) = c :: r
     ·have : (Lib.itoa ((valF 0 (c :: r) : Nat) : Int) == c :: r) = true := by simpa using he
      simp only [he, beq_self_eq_true, Bool.not_true, Bool.false_eq_true, if_false, if_true]
     ·have : (Lib.itoa ((valF 0 (c :: r) : Nat) : Int) == c :: r) = false := by simpa using he
      simp only [this, he, Bool.not_false, if_true, if_false]
    ·simp only [hd, Bool.false_eq_true, if_false, Option.bind_some]
theorem VY {s : List UInt8} (hl : s.length ≤ 1048576) : Pd s = some (Cm s) := by
 unfold Pd; rw [if_pos (by omega)]
theorem TU {s : List UInt8} (h : (Cm s).2 = true) : Lib.itoa (Cm s).1 = s ∧ lL (Cm s).1 := by
 cases s with
 | nil => simp [Cm, Lib.trimPrefix, Lib.hasPrefix] at h
 | cons c r =>
  by_cases hc : c = 45
  ·subst hc
   rw [Kk] at h ⊢
   split at h
   ·cases h
   ·rename_i hb
    rw [if_neg hb]
    split at h
    ·rename_i hd
     rw [if_pos hd]
     split at h
     ·rename_i he
      rw [if_pos he]
      have hv := LO (l := r) (n := 0) (a := 0) (by simp) hd
      have hv2 := GA (k := 0 + r.length) (by omega)
      exact ⟨he, by show -9223372036854775808 ≤ -((valF 0 r : Nat) : Int); omega, by show -((valF 0 r : Nat) : Int) ≤ 9223372036854775807; omega⟩
     ·cases h
    ·cases h
  ·rw [Ij hc] at h ⊢
   split at h
   ·cases h
   ·rename_i hb
    rw [if_neg hb]
    split at h
    ·rename_i hd
     rw [if_pos hd]
     split at h
     ·rename_i he
      rw [if_pos he]
      have hv := LO (l := c :: r) (n := 0) (a := 0) (by simp) hd
      have hv2 := GA (k := 0 + (c :: r).length) (by omega)
      exact ⟨he, by show -9223372036854775808 ≤ ((valF 0 (c :: r) : Nat) : Int); omega, by show ((valF 0 (c :: r) : Nat) : Int) ≤ 9223372036854775807; omega⟩
     ·cases h
    ·cases h
end Go.Proofs.YthdmeanbdohehaaGreatDoor
namespace Go.Proofs.YthdmeanbdohehaaGreatDoor
open Go Go.RowKit
set_option linter.unusedSimpArgs false
set_option linter.unusedVariables false
theorem fN (n : Nat) (a b : List UInt8) : valF n (a ++ b) = valF (valF n a) b := by unfold valF; rw [List.foldl_append]
theorem QT : ∀ (k u : Nat), u < 10 ^ (k + 1) → valF 0 (Lib.decDigits u) = u
 | 0, u, h => by
  have h : u < 10 := by simpa using h
  rw [Lib.decDigits_one h, IB, JL, UInt8.toNat_ofNat']
  omega
 | k + 1, u, h => by
  by_cases c : u < 10
  ·rw [Lib.decDigits_one c, IB, JL, UInt8.toNat_ofNat']
   omega
  ·rw [Lib.decDigits, dif_neg c, fN, QT k (u / 10) (by rw [Nat.pow_succ] at h; omega), IB, JL, UInt8.toNat_ofNat']
   omega
theorem Kp (u : Nat) : Lib.itoa (u : Int) = Lib.decDigits u := by unfold Lib.itoa; rw [if_neg (by omega)]; simp
theorem oE {n : Int} (h0 : 0 ≤ n) (h1 : n ≤ 65520) : Cm (Lib.itoa n) = (n, true) := by
 obtain ⟨u, rfl⟩ := Int.eq_ofNat_of_zero_le h0
 rw [Kp]
 have hl := Lib.decDigits_length u
 have hn := IS 4 u (by omega)
 have hne := Hv u
 have hall := OV u
 have hval := QT 4 u (by omega)
 cases hd : Lib.decDigits u with
 | nil => rw [hd] at hne; exact absurd hne (by simp)
 | cons c r =>
  rw [hd] at hl hall hval hne
  have hc : c ≠ 45 := fun e => by
   subst e
   have : QD 45 = true := (List.all_eq_true.1 hall) 45 (by simp)
   exact absurd this (by decide)
  rw [Ij hc, if_neg (by omega), if_pos hall, hval, if_pos (by rw [Kp, hd])]
theorem cW {n : Int} (h0 : -1000000000000000000 < n) (h1 : n < 1000000000000000000) : Cm (Lib.itoa n) = (n, true) := by
 by_cases hn : 0 ≤ n
 ·obtain ⟨u, rfl⟩ := Int.eq_ofNat_of_zero_le hn
  rw [Kp]
  have hl := Lib.decDigits_length u
  have hnd := IS 17 u (by omega)
  have hne := Hv u
  have hall := OV u
  have hval := QT 17 u (by omega)
  cases hd : Lib.decDigits u with
  | nil => rw [hd] at hne; exact absurd hne (by simp)
  | cons c r =>
   rw [hd] at hl hall hval hne
   have hc : c ≠ 45 := fun e => by
    subst e
    have : QD 45 = true := (List.all_eq_true.1 hall) 45 (by simp)
    exact absurd this (by decide)
   rw [Ij hc, if_neg (by omega), if_pos hall, hval, if_pos (by rw [Kp, hd])]
 ·obtain ⟨u, hu⟩ := Int.eq_ofNat_of_zero_le (show 0 ≤ -n by omega)
  obtain rfl : n = -(u : Int) := by omega
  have e : Lib.itoa (-(u : Int)) = 45 :: Lib.decDigits u := by unfold Lib.itoa; rw [if_pos (by omega)]; simp
  rw [e]
  have hl := Lib.decDigits_length u
  have hnd := IS 17 u (by omega)
  have hne := Hv u
  have hall := OV u
  have hval := QT 17 u (by omega)
  rw [Kk, if_neg (by omega), if_pos hall, hval, if_pos e]
theorem kX {c : UInt8} (hc : QD c = false) (u : Nat) : c ∉ Lib.decDigits u := fun h => by
 have := (List.all_eq_true.1 (OV u)) c h
 rw [hc] at this; cases this
end Go.Proofs.YthdmeanbdohehaaGreatDoor
namespace Go.Proofs.YthdmeanbdohehaaGreatDoor
open Go Go.RowKit
set_option linter.unusedSimpArgs false
set_option linter.unusedVariables false
def Hk (a b : Int) : List UInt8 := Lib.itoa a ++ 46 :: 46 :: Lib.itoa b
theorem mg {n : Int} (h0 : 0 ≤ n) : ∃ u : Nat, n = u ∧ Lib.itoa n = Lib.decDigits u := by
 obtain ⟨u, rfl⟩ : ∃ u : Nat, n = u := ⟨n.toNat, by omega⟩
 exact ⟨u, rfl, Kp u⟩
theorem Jg {n : Int} (h0 : 0 ≤ n) {c : UInt8} (hc : QD c = false) : c ∉ Lib.itoa n := by
 obtain ⟨u, _, e⟩ := mg h0
 rw [e]; exact kX hc u
theorem YH {a b : Int} (ha : 0 ≤ a) (hb : 0 ≤ b) : (32 : UInt8) ∉ Hk a b := by
 unfold Hk
 simp only [List.mem_append, List.mem_cons, not_or]
 exact ⟨Jg ha (by decide), by decide, by decide, Jg hb (by decide)⟩
theorem fH {n : Int} (h0 : 0 ≤ n) (h1 : n ≤ 10000000) : lL n := ⟨by omega, by omega⟩
theorem bG {n : Int} (h0 : 0 ≤ n) (h1 : n ≤ 10000000) : Cm (Lib.itoa n) = (n, true) := cW (by omega) (by omega)
theorem TX (c : UInt8) : ∀ (s acc p : List UInt8), p ∈ Bm c acc s → p.length ≤ acc.length + s.length
 | [], acc, p, h => by
  simp only [Bm, List.mem_singleton] at h
  subst h; simp
 | x :: r, acc, p, h => by
  rw [Bm] at h
  split at h
  ·rcases List.mem_cons.1 h with rfl | h
   ·simp
   ·have := TX c r [] p h
    simp only [List.length_nil, List.length_cons] at this ⊢; omega
  ·have := TX c r (acc ++ [x]) p h
   simp only [List.length_append, List.length_cons, List.length_nil] at this ⊢; omega
theorem Po {c : UInt8} {s p : List UInt8} (h : p ∈ CP c s) : p.length ≤ s.length := by
 have := TX c s [] p h
 simpa using this
theorem Mu (c : UInt8) (s : List UInt8) : Eh c (CP c s) = s := by unfold CP; rw [JD]; rfl
def GX (s : List UInt8) : Int × Int × Bool := match CP 46 s with
 | [a, [], b] => ((Cm a).1, (Cm b).1, (Cm a).2 && (Cm b).2)
 | _ => (0, 0, false)
theorem cX {s : List UInt8} (h : (GX s).2.2 = true) : s = Hk (GX s).1 (GX s).2.1 := by
 have hj := Mu 46 s
 unfold GX at h ⊢
 generalize CP 46 s = v at h hj
 split at h
 ·rename_i a b
  simp only [Bool.and_eq_true] at h
  simp only
  obtain ⟨e1, _⟩ := TU h.1
  obtain ⟨e2, _⟩ := TU h.2
  unfold Hk
  rw [e1, e2, ← hj]; rfl
 ·cases h
theorem Xx {a b : Int} (ha : 0 ≤ a) (hb : 0 ≤ b) : CP 46 (Hk a b) = [Lib.itoa a, [], Lib.itoa b] := MI 46 [Lib.itoa a, [], Lib.itoa b] (by simp) (by
 intro p hp; simp only [List.mem_cons, List.not_mem_nil, or_false] at hp
 rcases hp with rfl | rfl | rfl
 ·exact Jg ha (by decide)
 ·simp
 ·exact Jg hb (by decide))
theorem YI {a b : Int} (ha : 0 ≤ a) (h1 : a ≤ 10000000) (hb : 0 ≤ b) (h2 : b ≤ 10000000) : GX (Hk a b) = (a, b, true) := by
 unfold GX
 rw [Xx ha hb]
 simp only [bG ha h1, bG hb h2, Bool.and_self]
theorem bY (b : List UInt8) : ∀ a : List UInt8, (46 : UInt8) ∉ a → Lib.index (a ++ 46 :: 46 :: b) [46, 46] = a.length
 | [], _ => by unfold Lib.index; simp
 | x :: r, h => by
  have hx : ¬ (46 : UInt8) = x := fun e => h (by simp [e])
  have ih := bY b r (fun c => h (by simp [c]))
  show Lib.index (x :: (r ++ 46 :: 46 :: b)) [46, 46] = _
  unfold Lib.index
  have e1 : (List.isPrefixOf [46, 46] (x :: (r ++ 46 :: 46 :: b))) = false := by
   simp only [List.isPrefixOf, Bool.and_eq_false_iff, beq_eq_false_iff_ne]; exact .inl hx
  rw [e1, ih]
  have : (((r.length : Int)) == -1) = false := by rw [beq_eq_false_iff_ne]; omega
  simp [this]
theorem nZ {a b : List UInt8} (h : (46 : UInt8) ∉ a) : Lib.cut (a ++ 46 :: 46 :: b) [46, 46] = (a, b, true) := by
 unfold Lib.cut
 rw [bY b a h, if_pos (by omega)]
 simp
theorem ZA (s p : List UInt8) : (Lib.cut s p).1.length ≤ s.length ∧ (Lib.cut s p).2.1.length ≤ s.length := by
 unfold Lib.cut
 split <;> simp <;> omega
theorem XE {s p : List UInt8} (h : s.length ≤ 1048576) : Yj s p = some (Lib.cut s p) := by
 unfold Yj; rw [if_pos (by omega)]
theorem Lt {s : List UInt8} (h : s.length ≤ 1048576) : Ep s = some ((Cm (Lib.cut s [46, 46]).1).1, (Cm (Lib.cut s [46, 46]).2.1).1, (Cm (Lib.cut s [46, 46]).1).2 && (Cm (Lib.cut s [46, 46]).2.1).2) := by
 unfold Ep
 obtain ⟨h1, h2⟩ := ZA s [46, 46]
 rw [XE h, Option.bind_some, VY (by omega), Option.bind_some, VY (by omega)]; rfl
end Go.Proofs.YthdmeanbdohehaaGreatDoor
