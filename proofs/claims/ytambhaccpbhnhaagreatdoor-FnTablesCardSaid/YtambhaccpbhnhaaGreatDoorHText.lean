/- Plain texts: splitting, cutting, decimal numerals. No condition. -/
import Derived.Test.YtambhaccpbhnhaaGreatDoorEngSI
import Derived.Test.YtambhaccpbhnhaaGreatDoorEngTD
namespace Go.Proofs.YtambhaccpbhnhaaGreatDoor
open Go Go.RowKit
set_option linter.unusedSimpArgs false
set_option linter.unusedVariables false

/-! ### Parts of a text -/

def splitAcc (c : UInt8) : List UInt8 → List UInt8 → List (List UInt8)
  | acc, [] => [acc]
  | acc, x :: r => if x = c then acc :: splitAcc c [] r else splitAcc c (acc ++ [x]) r

def splitOn (c : UInt8) (s : List UInt8) : List (List UInt8) := splitAcc c [] s

theorem splitAcc_no {c : UInt8} : ∀ {s acc : List UInt8}, c ∉ s → splitAcc c acc s = [acc ++ s]
  | [], acc, _ => by simp [splitAcc]
  | x :: r, acc, h => by
    have hx : x ≠ c := fun e => h (by simp [e])
    rw [splitAcc, if_neg hx, splitAcc_no (fun hm => h (by simp [hm])), List.append_assoc]; rfl

theorem splitAcc_app {c : UInt8} : ∀ {a acc b : List UInt8}, c ∉ a → splitAcc c acc (a ++ c :: b) = (acc ++ a) :: splitAcc c [] b
  | [], acc, b, _ => by simp [splitAcc]
  | x :: r, acc, b, h => by
    have hx : x ≠ c := fun e => h (by simp [e])
    rw [List.cons_append, splitAcc, if_neg hx, splitAcc_app (fun hm => h (by simp [hm])), List.append_assoc]; rfl

theorem splitAcc_ne (c : UInt8) : ∀ s acc : List UInt8, splitAcc c acc s ≠ []
  | [], acc => by simp [splitAcc]
  | x :: r, acc => by
    rw [splitAcc]
    split
    · simp
    · exact splitAcc_ne c r _

theorem splitAcc_len (c : UInt8) : ∀ s acc : List UInt8, 1 ≤ (splitAcc c acc s).length ∧ (splitAcc c acc s).length ≤ s.length + 1
  | [], acc => by simp [splitAcc]
  | x :: r, acc => by
    rw [splitAcc]
    split
    · have := splitAcc_len c r []
      simp only [List.length_cons]; omega
    · have := splitAcc_len c r (acc ++ [x])
      simp only [List.length_cons]; omega

/-- The parts of a text, put together again. -/
def joinOn (c : UInt8) : List (List UInt8) → List UInt8
  | [] => []
  | [a] => a
  | a :: b :: r => a ++ c :: joinOn c (b :: r)

theorem join_splitAcc (c : UInt8) : ∀ s acc : List UInt8, joinOn c (splitAcc c acc s) = acc ++ s
  | [], acc => by simp [splitAcc, joinOn]
  | x :: r, acc => by
    rw [splitAcc]
    split
    · rename_i e
      have h := join_splitAcc c r []
      cases hs : splitAcc c [] r with
      | nil => exact absurd hs (splitAcc_ne c r [])
      | cons b t => rw [hs] at h; rw [joinOn, h, e]; rfl
    · rw [join_splitAcc c r (acc ++ [x]), List.append_assoc]; rfl

theorem part_free (c : UInt8) : ∀ {s acc : List UInt8}, c ∉ acc → ∀ p ∈ splitAcc c acc s, c ∉ p
  | [], acc, h, p, hp => by simp [splitAcc] at hp; rw [hp]; exact h
  | x :: r, acc, h, p, hp => by
    rw [splitAcc] at hp
    split at hp
    · rcases List.mem_cons.1 hp with e | hp
      · rw [e]; exact h
      · exact part_free c (by simp) p hp
    · rename_i hx
      exact part_free c (by simp only [List.mem_append, List.mem_singleton, not_or]; exact ⟨h, fun e => hx e.symm⟩) p hp

theorem split_join (c : UInt8) : ∀ (l : List (List UInt8)), l ≠ [] → (∀ p ∈ l, c ∉ p) → splitOn c (joinOn c l) = l
  | [], h, _ => absurd rfl h
  | [a], _, h => by
    unfold splitOn joinOn
    rw [splitAcc_no (h a (by simp))]; rfl
  | a :: b :: r, _, h => by
    have ih := split_join c (b :: r) (by simp) (fun p hp => h p (by simp [hp]))
    unfold splitOn at ih ⊢
    rw [joinOn, splitAcc_app (h a (by simp)), ih]; rfl

/-! ### Where a byte stands -/

theorem idx_cases (c : UInt8) : ∀ s : List UInt8, (Lib.index s [c] = -1 ∧ c ∉ s) ∨ ∃ a b, s = a ++ c :: b ∧ c ∉ a ∧ Lib.index s [c] = a.length
  | [] => .inl ⟨by simp [Lib.index], by simp⟩
  | x :: r => by
    unfold Lib.index
    by_cases e : x = c
    · subst e
      exact .inr ⟨[], r, rfl, by simp, by simp⟩
    · have e1 : (List.isPrefixOf [c] (x :: r)) = false := by
        simp only [List.isPrefixOf, Bool.and_true, beq_eq_false_iff_ne]; exact fun h => e h.symm
      rw [e1]
      rcases idx_cases c r with ⟨h1, h2⟩ | ⟨a, b, rfl, h2, h3⟩
      · exact .inl ⟨by simp [h1], by simp only [List.mem_cons, not_or]; exact ⟨fun h => e h.symm, h2⟩⟩
      · refine .inr ⟨x :: a, b, rfl, by simp only [List.mem_cons, not_or]; exact ⟨fun h => e h.symm, h2⟩, ?_⟩
        rw [h3]
        have : (((a.length : Int)) == -1) = false := by rw [beq_eq_false_iff_ne]; omega
        simp [this]

theorem cut_no {c : UInt8} {s : List UInt8} (h : c ∉ s) : Lib.cut s [c] = (s, [], false) := by
  rcases idx_cases c s with ⟨h1, _⟩ | ⟨a, b, rfl, _, _⟩
  · unfold Lib.cut; rw [h1, if_neg (by decide)]
  · exact absurd (by simp) h

theorem cut_yes {c : UInt8} {a b : List UInt8} (h : c ∉ a) : Lib.cut (a ++ c :: b) [c] = (a, b, true) := by
  rcases idx_cases c (a ++ c :: b) with ⟨_, h2⟩ | ⟨a', b', e, h2, h3⟩
  · exact absurd (by simp) h2
  · have ha : a' = a ∧ b' = b := by
      have s1 := splitAcc_app (acc := []) (b := b) h
      have s2 := splitAcc_app (acc := []) (b := b') h2
      rw [e, s2] at s1
      have : [] ++ a' = [] ++ a := (List.cons.inj s1).1
      have hab : a' = a := by simpa using this
      subst hab
      exact ⟨rfl, ((List.cons.inj (List.append_cancel_left e)).2).symm⟩
    obtain ⟨rfl, rfl⟩ := ha
    unfold Lib.cut
    rw [h3, if_pos (by omega)]
    simp

theorem splitK_is (c : UInt8) : ∀ (k : Nat) (s : List UInt8), s.count c = k → Lib.splitK [c] 0 k s = splitOn c s := by
  intro k
  induction k with
  | zero =>
    intro s h
    have hc : c ∉ s := List.count_eq_zero.1 h
    unfold splitOn
    rw [splitAcc_no hc]; rfl
  | succ k ih =>
    intro s h
    rcases idx_cases c s with ⟨h1, h2⟩ | ⟨a, b, rfl, h2, h3⟩
    · rw [List.count_eq_zero.2 h2] at h; omega
    · unfold Lib.splitK
      have hne : ((a.length : Int) == -1) = false := by rw [beq_eq_false_iff_ne]; omega
      rw [h3]
      simp only [hne, Bool.false_eq_true, if_false]
      have hcnt : b.count c = k := by
        rw [List.count_append, List.count_eq_zero.2 h2, List.count_cons_self] at h; omega
      have e1 : (a ++ c :: b).take ((a.length : Int).toNat + 0) = a := by simp
      have e2 : (a ++ c :: b).drop ((a.length : Int).toNat + ([c] : List UInt8).length) = b := by simp
      unfold splitOn
      rw [splitAcc_app h2]
      first
        | rw [e1, e2, ih b hcnt]
        | (rw [e2, ih b hcnt]; simp [splitOn])
      rfl

theorem count_one (c : UInt8) : ∀ (f : Nat) (s : List UInt8), s.length < f → Lib.countFrom [c] f s = s.count c := by
  intro f
  induction f with
  | zero => intro s h; omega
  | succ f ih =>
    intro s h
    unfold Lib.countFrom
    rcases idx_cases c s with ⟨h1, h2⟩ | ⟨a, b, rfl, h2, h3⟩
    · simp [h1, List.count_eq_zero.2 h2]
    · have hne : ((a.length : Int) == -1) = false := by rw [beq_eq_false_iff_ne]; omega
      rw [h3]
      simp only [hne, Bool.false_eq_true, if_false]
      have e2 : (a ++ c :: b).drop ((a.length : Int).toNat + ([c] : List UInt8).length) = b := by simp
      rw [e2, ih b (by simp at h; omega), List.count_append, List.count_eq_zero.2 h2, List.count_cons_self]
      omega

theorem split_is (c : UInt8) (s : List UInt8) : Lib.split s [c] = splitOn c s := by
  unfold Lib.split Lib.count
  rw [count_one c _ s (by omega)]
  exact splitK_is c _ s rfl

theorem hSplit_one {c : UInt8} {s : List UInt8} (h : s.length < 4294967281) : hSplit s [c] = some (splitOn c s) := by
  unfold hSplit
  rw [split_is]
  simp [h]

theorem hCut_one {c : UInt8} {s : List UInt8} (h : s.length < 4294967281) : hCut s [c] = some (Lib.cut s [c]) := by
  unfold hCut; rw [if_pos h]

/-! ### Digits -/

def dig (c : UInt8) : Bool := decide (48 ≤ (c.toNat : Int)) && decide ((c.toNat : Int) ≤ 57)

theorem dig_iff {c : UInt8} : dig c = true ↔ 48 ≤ c.toNat ∧ c.toNat ≤ 57 := by
  unfold dig
  simp only [Bool.and_eq_true, decide_eq_true_eq]
  omega

def valF (n : Nat) (l : List UInt8) : Nat := l.foldl (fun n c => n * 10 + (c.toNat - 48)) n
theorem valF_nil (n : Nat) : valF n [] = n := by unfold valF; rw [List.foldl_nil]
theorem valF_cons (n : Nat) (c : UInt8) (r : List UInt8) : valF n (c :: r) = valF (n * 10 + (c.toNat - 48)) r := by unfold valF; rw [List.foldl_cons]

theorem valF_lt {l : List UInt8} : ∀ {n a : Nat}, n < 10 ^ a → l.all dig = true → valF n l < 10 ^ (a + l.length) := by
  induction l with
  | nil => intro n a h _; rw [valF_nil]; exact h
  | cons c r ih =>
    intro n a h hd
    simp only [List.all_cons, Bool.and_eq_true] at hd
    have hc := dig_iff.1 hd.1
    have h2 : n * 10 + (c.toNat - 48) < 10 ^ (a + 1) := by rw [Nat.pow_succ]; omega
    have := ih h2 hd.2
    rw [valF_cons, List.length_cons]
    rwa [Nat.add_assoc, Nat.add_comm 1] at this

theorem pow_small {k : Nat} (h : k ≤ 18) : (10 : Nat) ^ k ≤ 1000000000000000000 := Nat.pow_le_pow_right (by omega) h

/-- What the parsing of a text that is no numeral ends with. -/
def noNum := Lib.parseUintM 0 0 [0]

theorem parse_digits {l : List UInt8} : ∀ {n a : Nat}, n < 10 ^ a → a + l.length ≤ 18 → Lib.parseUintM (2 ^ 64 - 1) n l = if l.all dig = true then .ok (valF n l) else noNum := by
  induction l with
  | nil => intro n a _ _; simp [Lib.parseUintM, valF_nil]
  | cons c r ih =>
    intro n a h hl
    rw [List.length_cons] at hl
    have hp := pow_small (show a ≤ 18 by omega)
    have hp1 := pow_small (show a + 1 ≤ 18 by omega)
    rw [Lib.parseUintM]
    by_cases hc : 48 ≤ c.toNat ∧ c.toNat ≤ 57
    · have h2 : n * 10 + (c.toNat - 48) < 10 ^ (a + 1) := by rw [Nat.pow_succ]; omega
      rw [if_pos hc, if_neg (by omega), if_neg (by omega), ih h2 (by omega)]
      simp only [List.all_cons, dig_iff.2 hc, Bool.true_and, valF_cons]
    · rw [if_neg hc]
      have : dig c = false := by
        cases hd : dig c with
        | false => rfl
        | true => exact absurd (dig_iff.1 hd) hc
      simp only [List.all_cons, this, Bool.false_and, Bool.false_eq_true, if_false]
      rfl

theorem dec_dig : ∀ (k u : Nat), u < 10 ^ (k + 1) → (Lib.decDigits u).all dig = true
  | 0, u, h => by
    have h : u < 10 := by simpa using h
    rw [Lib.decDigits_one h]
    simp only [List.all_cons, List.all_nil, Bool.and_true, dig_iff, UInt8.toNat_ofNat']
    omega
  | k + 1, u, h => by
    by_cases c : u < 10
    · rw [Lib.decDigits_one c]
      simp only [List.all_cons, List.all_nil, Bool.and_true, dig_iff, UInt8.toNat_ofNat']
      omega
    · rw [Lib.decDigits, dif_neg c, List.all_append, dec_dig k (u / 10) (by rw [Nat.pow_succ] at h; omega)]
      simp only [List.all_cons, List.all_nil, Bool.and_true, Bool.true_and, dig_iff, UInt8.toNat_ofNat']
      omega

theorem dec_all (u : Nat) : (Lib.decDigits u).all dig = true := dec_dig u u (Nat.lt_of_lt_of_le (Nat.lt_pow_self (by omega)) (Nat.pow_le_pow_right (by omega) (by omega)))

theorem itoa_plus (n : Int) (r : List UInt8) : Lib.itoa n ≠ 43 :: r := by
  intro h
  unfold Lib.itoa at h
  split at h
  · have := (List.cons.inj h).1
    exact absurd this (by decide)
  · have := dec_all n.toNat
    rw [h] at this
    simp [dig] at this

theorem trim_minus (r : List UInt8) : Lib.trimPrefix (45 :: r) [45] = r := by simp [Lib.trimPrefix, Lib.hasPrefix]
theorem trim_other {c : UInt8} {r : List UInt8} (h : c ≠ 45) : Lib.trimPrefix (c :: r) [45] = c :: r := by
  unfold Lib.trimPrefix Lib.hasPrefix
  have : (List.isPrefixOf [45] (c :: r)) = false := by
    simp only [List.isPrefixOf, Bool.and_true, beq_eq_false_iff_ne]; exact fun e => h e.symm
  simp [this]

/-- What the program's reading of a numeral gives, by digits. -/
theorem rdDec_minus {r : List UInt8} : rdDec (45 :: r) = if r.length < 1 ∨ 18 < r.length then (0, false) else if r.all dig = true then (if Lib.itoa (-(valF 0 r : Int)) = 45 :: r then (-(valF 0 r : Int), true) else (0, false)) else (0, false) := by
  unfold rdDec
  rw [trim_minus]
  by_cases h : r.length < 1 ∨ 18 < r.length
  · rw [if_pos h, if_pos h]
  · rw [if_neg h, if_neg h]
    have hne : r ≠ [] := fun e => h (.inl (by simp [e]))
    have hp := parse_digits (l := r) (n := 0) (a := 0) (by simp) (by omega)
    have e43 : ((45 : UInt8).toNat = 43 ∨ (45 : UInt8).toNat = 45) := .inr rfl
    unfold Lib.parseIntB
    simp only [e43, if_true, Lib.parseUintB, hne, if_false, hp]
    by_cases hd : r.all dig = true
    · have hv := valF_lt (l := r) (n := 0) (a := 0) (by simp) hd
      have hv2 := pow_small (k := 0 + r.length) (by omega)
      have e45 : ((45 : UInt8).toNat = 45) := rfl
      have n2 : ¬ (2 ^ (64 - 1) < valF 0 r) := by omega
      simp only [hd, if_true, e45, not_true_eq_false, false_and, if_false, true_and, n2]
    · simp only [hd, Bool.false_eq_true, if_false]
      rfl

theorem rdDec_other {c : UInt8} {r : List UInt8} (hc : c ≠ 45) : rdDec (c :: r) = if (c :: r).length < 1 ∨ 18 < (c :: r).length then (0, false) else if (c :: r).all dig = true then (if Lib.itoa (valF 0 (c :: r) : Int) = c :: r then ((valF 0 (c :: r) : Int), true) else (0, false)) else (0, false) := by
  unfold rdDec
  rw [trim_other hc]
  by_cases h : (c :: r).length < 1 ∨ 18 < (c :: r).length
  · rw [if_pos h, if_pos h]
  · rw [if_neg h, if_neg h]
    have e45 : ¬ (c.toNat = 45) := fun e => hc (by rw [← UInt8.toNat_inj]; exact e)
    by_cases h43 : c = 43
    · subst h43
      have hd : ((43 : UInt8) :: r).all dig = false := by simp [dig]
      rw [hd]
      simp only [Bool.false_eq_true, if_false]
      rcases hp : Lib.parseIntB 64 (43 :: r) with v | _ | _
      · simp only [if_neg (itoa_plus v r)]
      · rfl
      · rfl
    · have e43 : ¬ (c.toNat = 43 ∨ c.toNat = 45) := fun e => by
        rcases e with e | e
        · exact h43 (by rw [← UInt8.toNat_inj]; exact e)
        · exact e45 e
      have hp := parse_digits (l := c :: r) (n := 0) (a := 0) (by simp) (by omega)
      unfold Lib.parseIntB
      simp only [e43, if_false, Lib.parseUintB, List.cons_ne_nil, hp]
      by_cases hd : (c :: r).all dig = true
      · have hv := valF_lt (l := c :: r) (n := 0) (a := 0) (by simp) hd
        have hv2 := pow_small (k := 0 + (c :: r).length) (by omega)
        have n1 : ¬ (2 ^ (64 - 1) ≤ valF 0 (c :: r)) := by omega
        simp only [hd, if_true, e45, not_false_eq_true, true_and, n1, false_and, if_false]
      · simp only [hd, Bool.false_eq_true, if_false]
        rfl

end Go.Proofs.YtambhaccpbhnhaaGreatDoor
