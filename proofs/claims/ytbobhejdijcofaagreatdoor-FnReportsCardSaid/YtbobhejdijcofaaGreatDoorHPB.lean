/- Plain lemmas, several texts in one. No condition. -/
import Derived.Test.YtbobhejdijcofaaGreatDoorHPA
import Derived.Test.YtbobhejdijcofaaGreatDoorEngSH
import Derived.Test.YtbobhejdijcofaaGreatDoorEngSI
import Derived.Test.YtbobhejdijcofaaGreatDoorEngTD
/- What typed forms say: the names in a list, rising, each once: sorting. No condition. -/
namespace Go.Proofs.YtbobhejdijcofaaGreatDoor
open Go Go.RowKit
set_option linter.unusedSimpArgs false
set_option linter.unusedVariables false

abbrev Bs := List UInt8

theorem bl_lt : ∀ a b : Bs, Op.bytesLess a b = decide (a < b)
  | [], [] => by simp [Op.bytesLess]
  | _ :: _, [] => by simp [Op.bytesLess]
  | [], _ :: _ => by simp [Op.bytesLess]
  | x :: a, y :: b => by
    simp only [Op.bytesLess, bl_lt a b, List.cons_lt_cons_iff]
    by_cases c1 : x < y <;> by_cases c2 : x = y <;> by_cases c3 : a < b <;> simp [c1, c2, c3]
theorem lt_irr (a : Bs) : ¬ a < a := List.lt_irrefl a
theorem lt_tr {a b c : Bs} (h1 : a < b) (h2 : b < c) : a < c := List.lt_trans h1 h2
theorem lt_tri (a b : Bs) : a < b ∨ a = b ∨ b < a := by
  by_cases h : a < b
  · exact .inl h
  · by_cases h2 : b < a
    · exact .inr (.inr h2)
    · exact .inr (.inl (List.le_antisymm (List.not_lt.1 h2) (List.not_lt.1 h)))

def Strict (l : List Bs) : Prop := l.Pairwise (· < ·)

theorem strict_unique : ∀ {l1 l2 : List Bs}, Strict l1 → Strict l2 → (∀ x, x ∈ l1 ↔ x ∈ l2) → l1 = l2
  | [], [], _, _, _ => rfl
  | [], b :: l2, _, _, h => absurd ((h b).2 (by simp)) (by simp)
  | a :: l1, [], _, _, h => absurd ((h a).1 (by simp)) (by simp)
  | a :: l1, b :: l2, h1, h2, h => by
    obtain ⟨p1, q1⟩ := List.pairwise_cons.1 h1
    obtain ⟨p2, q2⟩ := List.pairwise_cons.1 h2
    have hab : a = b := by
      rcases List.mem_cons.1 ((h a).1 (by simp)) with e | e
      · exact e
      · rcases List.mem_cons.1 ((h b).2 (by simp)) with e2 | e2
        · exact e2.symm
        · exact absurd (lt_tr (p1 b e2) (p2 a e)) (lt_irr a)
    subst hab
    congr 1
    refine strict_unique q1 q2 fun x => ⟨fun hx => ?_, fun hx => ?_⟩
    · rcases List.mem_cons.1 ((h x).1 (by simp [hx])) with e | e
      · subst e; exact absurd (p1 _ hx) (lt_irr _)
      · exact e
    · rcases List.mem_cons.1 ((h x).2 (by simp [hx])) with e | e
      · subst e; exact absurd (p2 _ hx) (lt_irr _)
      · exact e

/-! ### Sorted, and each once -/

theorem sortS_mem (l : List Bs) (x : Bs) : x ∈ sortS l ↔ x ∈ l := by unfold sortS; exact List.mem_mergeSort
theorem sortS_len (l : List Bs) : (sortS l).length = l.length := by unfold sortS; exact List.length_mergeSort _
theorem sortS_le (l : List Bs) : (sortS l).Pairwise (· ≤ ·) := by
  unfold sortS
  have := List.pairwise_mergeSort (le := fun x y : Bs => decide (x ≤ y)) (fun a b c h1 h2 => by
    simp only [decide_eq_true_eq] at h1 h2 ⊢; exact List.le_trans h1 h2) (fun a b => by
    rcases List.le_total a b with h | h <;> simp [h]) l
  exact this.imp fun h => by simpa using h

theorem compS_mem {l : List Bs} (x : Bs) : x ∈ compS l ↔ x ∈ l := by
  unfold compS Lib.compact Lib.compactUpTo
  simp only [List.mem_map, List.mem_filter, List.mem_range]
  have hget : ∀ i (h : i < l.length), l.toArray[i]! = l[i] := fun i h => by rw [getElem!_pos _ i (by simpa using h)]; simp
  constructor
  · rintro ⟨i, ⟨hi, _⟩, e⟩
    rw [hget i hi] at e
    rw [← e]; exact List.getElem_mem hi
  · intro hx
    obtain ⟨i, hi, rfl⟩ := List.getElem_of_mem hx
    clear hx
    induction i with
    | zero => exact ⟨0, ⟨hi, by simp [Lib.keeps]⟩, hget 0 hi⟩
    | succ i ih =>
      by_cases c : Lib.keeps l.toArray (i + 1) = true
      · exact ⟨i + 1, ⟨hi, c⟩, hget _ hi⟩
      · have : l[i + 1] = l[i] := by
          unfold Lib.keeps at c
          simp only [decide_eq_true_eq, not_or] at c
          have h2 := c.2
          rw [hget _ hi, show i + 1 - 1 = i by omega, hget i (by omega)] at h2
          exact Classical.byContradiction h2
        rw [this]
        exact ih (by omega)

theorem compS_strict {l : List Bs} (h : l.Pairwise (· ≤ ·)) : Strict (compS l) := by
  unfold Strict compS Lib.compact Lib.compactUpTo
  have hget : ∀ i (h : i < l.length), l.toArray[i]! = l[i] := fun i h => by rw [getElem!_pos _ i (by simpa using h)]; simp
  have hle : ∀ i j (hi : i < l.length) (hj : j < l.length), i ≤ j → l[i] ≤ l[j] := fun i j hi hj hij => by
    rcases Nat.lt_or_ge i j with c | c
    · exact List.pairwise_iff_getElem.1 h i j hi hj c
    · have : i = j := by omega
      subst this; exact List.le_refl _
  rw [List.pairwise_map]
  refine List.Pairwise.imp_of_mem (R := (· < ·)) (fun {a b} ha hb hab => ?_) (List.pairwise_lt_range.filter _)
  have hb1 := (List.mem_filter.1 hb)
  have hbl : b < l.length := by simpa using hb1.1
  have hk := hb1.2
  unfold Lib.keeps at hk
  simp only [decide_eq_true_eq] at hk
  rcases hk with e | e
  · omega
  · rw [hget _ hbl, hget (b - 1) (by omega)] at e
    rw [hget a (by omega), hget b hbl]
    have h1 := hle a (b - 1) (by omega) (by omega) (by omega)
    have h2 := hle (b - 1) b (by omega) hbl (by omega)
    rcases lt_tri l[b - 1] l[b] with q | q | q
    · rcases lt_tri l[a] l[b - 1] with r | r | r
      · exact lt_tr r q
      · rw [r]; exact q
      · exact absurd r (List.not_lt.2 h1)
    · exact absurd q.symm e
    · exact absurd q (List.not_lt.2 h2)

end Go.Proofs.YtbobhejdijcofaaGreatDoor

/- What typed forms say: the names in a list, rising, each once. No condition. -/
namespace Go.Proofs.YtbobhejdijcofaaGreatDoor
open Go Go.RowKit
set_option linter.unusedSimpArgs false
set_option linter.unusedVariables false

/-! ### A name is put to its place -/

theorem putName_loop {l : List Bs} (hl : l.length ≤ 100000) (n : Bs) : ∀ k : Nat, k ≤ l.length → (∀ j (hj : j < l.length), k ≤ j → n < l[j]) →
    ∃ k' : Nat, k' ≤ l.length ∧ whileE (spec_l06PutName_l1 l n) (k : Int) = some (k' : Int) ∧ (∀ j (hj : j < l.length), k' ≤ j → n < l[j]) ∧ (∀ (h : 0 < k') (h2 : k' - 1 < l.length), ¬ n < l[k' - 1])
  | 0, hk, hb => ⟨0, hk, whileE_done (by simp [spec_l06PutName_l1, ck_true]), hb, fun h => by omega⟩
  | k + 1, hk, hb => by
    have e0 : decide ((0 : Int) < ((k + 1 : Nat) : Int)) = true := decide_eq_true (by omega)
    have w1 : IntKind.i64.wrap (((k + 1 : Nat) : Int) - 1) = (k : Int) := by rw [wrap_i64 (by omega) (by omega)]; omega
    have ok1 : ixOk (k : Int) l.length = true := by rw [ixOk_nat]; simp; omega
    have hkl : k < l.length := by omega
    have hcond : (!(Op.bytesLess (l.getD k default) n || (l.getD k default) == n)) = decide (n < l[k]) := by
      rw [getD_lt hkl, bl_lt]
      rcases lt_tri n l[k] with h | h | h
      · have h1 : ¬ l[k] < n := fun c => lt_irr _ (lt_tr h c)
        have h2 : l[k] ≠ n := fun c => by rw [c] at h; exact lt_irr _ h
        simp [h, h1, h2]
      · have h1 : ¬ n < l[k] := fun c => by rw [← h] at c; exact lt_irr _ c
        simp [← h, lt_irr]
      · have h1 : ¬ n < l[k] := fun c => lt_irr _ (lt_tr h c)
        simp [h, h1]
    by_cases hbe : n < l[k]
    · rw [whileE_next (s' := (k : Int)) (by
        simp only [spec_l06PutName_l1, e0, w1, ok1, Int.toNat_natCast, hcond, hbe, decide_true, Bool.not_true, Bool.false_or, ck_true, Bool.and_self, if_true])]
      refine putName_loop hl n k (by omega) fun j hj hkj => ?_
      rcases Nat.lt_or_ge k j with c | c
      · exact hb j hj (by omega)
      · have : j = k := by omega
        subst this; exact hbe
    · refine ⟨k + 1, hk, whileE_done ?_, hb, fun _ _ => by simpa using hbe⟩
      simp only [spec_l06PutName_l1, e0, w1, ok1, Int.toNat_natCast, hcond, hbe, decide_false, Bool.not_true, Bool.false_or, ck_true, Bool.and_false, Bool.false_eq_true, if_false]

theorem putName_is {l : List Bs} (hl : l.length ≤ 100000) (hs : Strict l) (n : Bs) : ∃ l', spec_l06PutName l n = some l' ∧ Strict l' ∧ l'.length ≤ l.length + 1 ∧ ∀ x, x ∈ l' ↔ x = n ∨ x ∈ l := by
  obtain ⟨k, hk, hw, h1, h2⟩ := putName_loop hl n l.length (Nat.le_refl _) (fun j hj h => by omega)
  unfold spec_l06PutName
  rw [hw]
  simp only [Option.bind_some]
  have hlt : ∀ j (hj : j < l.length), j < k → ∀ (hk2 : k - 1 < l.length), l[j] < l[k - 1] ∨ j = k - 1 := fun j hj hjk hk2 => by
    rcases Nat.lt_or_ge j (k - 1) with c | c
    · exact .inl (List.pairwise_iff_getElem.1 hs j (k - 1) hj hk2 c)
    · exact .inr (by omega)
  by_cases h0 : 0 < k
  · have e0 : decide ((0 : Int) < (k : Int)) = true := decide_eq_true (by omega)
    have w1 : IntKind.i64.wrap ((k : Int) - 1) = ((k - 1 : Nat) : Int) := by rw [wrap_i64 (by omega) (by omega)]; omega
    have hk2 : k - 1 < l.length := by omega
    have ok1 : ixOk ((k - 1 : Nat) : Int) l.length = true := by rw [ixOk_nat]; simp; omega
    simp only [e0, w1, ok1, Int.toNat_natCast, Bool.not_true, Bool.false_or, ck_true, Bool.true_and, getD_lt hk2]
    by_cases he : l[k - 1] = n
    · have : (l[k - 1] == n) = true := by simpa using he
      rw [if_pos this]
      exact ⟨l, rfl, hs, by omega, fun x => ⟨.inr, fun h => h.elim (fun e => by rw [e, ← he]; exact List.getElem_mem hk2) id⟩⟩
    · have : ¬ (l[k - 1] == n) = true := by simpa using he
      rw [if_neg this, cutOk_of (by omega) (by omega) (by omega), ck_true, appOk_of (by simp [cut]; omega), ck_true, appOk_of (by simp [cut]; omega), ck_true, cutOk_of (by omega) (by omega) (by omega), ck_true, appOk_of (by simp [cut]; omega), ck_true]
      have hn : l[k - 1] < n := by
        rcases lt_tri l[k - 1] n with c | c | c
        · exact c
        · exact absurd c he
        · exact absurd c (h2 h0 hk2)
      refine ⟨_, rfl, ?_, by simp [cut]; omega, fun x => ?_⟩
      · unfold Strict
        simp only [cut, Int.toNat_natCast, List.take_length, List.nil_append]
        rw [show ((0 : Int).toNat) = 0 from rfl, List.drop_zero, List.append_assoc]
        refine List.pairwise_append.2 ⟨hs.sublist (List.take_sublist _ _), ?_, fun a ha b hb => ?_⟩
        · refine List.pairwise_append.2 ⟨List.pairwise_singleton _ _, hs.sublist (List.drop_sublist _ _), fun a ha b hb => ?_⟩
          simp only [List.mem_singleton] at ha
          subst ha
          obtain ⟨i, hi, rfl⟩ := List.getElem_of_mem hb
          rw [List.getElem_drop]
          exact h1 _ _ (by omega)
        · obtain ⟨i, hi, rfl⟩ := List.getElem_of_mem ha
          have hi' : i < k := by simp at hi; omega
          rw [List.getElem_take]
          have han : l[i] < n := by
            rcases hlt i (by omega) hi' hk2 with c | c
            · exact lt_tr c hn
            · simp only [c]; exact hn
          rcases List.mem_append.1 hb with hb | hb
          · simp only [List.mem_singleton] at hb; rw [hb]; exact han
          · obtain ⟨j, hj, rfl⟩ := List.getElem_of_mem hb
            rw [List.getElem_drop]
            exact lt_tr han (h1 _ _ (by omega))
      · simp only [cut, Int.toNat_natCast, List.take_length, List.nil_append, List.mem_append, List.mem_singleton]
        rw [show ((0 : Int).toNat) = 0 from rfl, List.drop_zero]
        have hsplit : x ∈ l ↔ x ∈ l.take k ∨ x ∈ l.drop k := by rw [← List.mem_append, List.take_append_drop]
        rw [hsplit]
        constructor
        · rintro ((h | h) | h)
          · exact .inr (.inl h)
          · exact .inl h
          · exact .inr (.inr h)
        · rintro (h | h | h)
          · exact .inl (.inr h)
          · exact .inl (.inl h)
          · exact .inr h
  · obtain rfl : k = 0 := by omega
    have e0 : decide ((0 : Int) < ((0 : Nat) : Int)) = false := rfl
    simp only [e0, Bool.not_false, Bool.true_or, ck_true, Bool.false_and, Bool.false_eq_true, if_false]
    rw [cutOk_of (by omega) (by omega) (by omega), ck_true, appOk_of (by simp [cut]), ck_true, appOk_of (by simp [cut]), ck_true, cutOk_of (by omega) (by omega) (by omega), ck_true, appOk_of (by simp [cut]; omega), ck_true]
    refine ⟨_, rfl, ?_, by simp [cut], fun x => ?_⟩
    · unfold Strict
      simp only [cut]
      simp only [Int.toNat_natCast, List.take_length, List.take_zero, List.drop_nil, List.nil_append, List.drop_zero]
      refine List.pairwise_append.2 ⟨List.pairwise_singleton _ _, hs, fun a ha b hb => ?_⟩
      simp only [List.mem_singleton] at ha
      subst ha
      obtain ⟨i, hi, rfl⟩ := List.getElem_of_mem hb
      exact h1 i hi (by omega)
    · simp [cut]

end Go.Proofs.YtbobhejdijcofaaGreatDoor

/- What typed forms say: the names of the stars, by spec.StarsIn. No condition. -/
namespace Go.Proofs.YtbobhejdijcofaaGreatDoor
open Go Go.RowKit
set_option linter.unusedSimpArgs false
set_option linter.unusedVariables false

/-! ### The names of the stars -/

def starL (l : List Estimate) : List Bs := l.map (·.Star)

theorem star_names {l : List Estimate} (hl : l.length ≤ 10000) : ∃ ns, whileE (spec_StarsIn_l1 l) (([] : List Bs), 0) = some ns ∧ impl_namesOf__impl_starOf l = some ns ∧ Strict ns ∧ ns.length ≤ l.length ∧ ∀ x, x ∈ ns ↔ x ∈ starL l := by
  obtain ⟨ns, h1, h2, h3, h4⟩ : ∃ ns, whileE (spec_StarsIn_l1 l) (([] : List Bs), 0) = some ns ∧ Strict ns ∧ ns.length ≤ l.length ∧ ∀ x, x ∈ ns ↔ x ∈ starL l := by
    obtain ⟨y, hy, hq⟩ := while_post (step := spec_StarsIn_l1 l) (fun s => ∃ i : Nat, s.2 = (i : Int) ∧ i ≤ l.length ∧ Strict s.1 ∧ s.1.length ≤ i ∧ ∀ x, x ∈ s.1 ↔ x ∈ starL (l.take i))
      (fun y => Strict y ∧ y.length ≤ l.length ∧ ∀ x, x ∈ y ↔ x ∈ starL l) (fun s => l.length - s.2.toNat) (by
      rintro ⟨out, ii⟩ ⟨i, rfl, hi, hs, hlen, hm⟩
      simp only at hs hlen hm
      by_cases h : i < l.length
      · left
        obtain ⟨l', e, p1, p2, p3⟩ := putName_is (l := out) (by omega) hs (l.getD i default).Star
        simp only [spec_StarsIn_l1, ixOk_nat, h, decide_true, ck_true, Int.ofNat_lt, if_true, Bool.false_eq_true, if_false, Int.toNat_natCast, wrap_nat1 (show i < 9223372036854775807 by omega), e, Option.bind_some]
        refine ⟨_, rfl, ⟨i + 1, rfl, by omega, p1, by show l'.length ≤ i + 1; omega, fun x => ?_⟩, by simp only [Int.toNat_natCast]; omega⟩
        show x ∈ l' ↔ _
        rw [p3, hm, List.take_add_one, List.getElem?_eq_getElem h, getD_lt h]
        simp only [starL, List.map_append, List.mem_append, Option.toList_some, List.map_cons, List.map_nil, List.mem_singleton]
        exact Or.comm
      · right
        obtain rfl : i = l.length := by omega
        rw [List.take_length] at hm
        exact ⟨out, by simp [spec_StarsIn_l1], hs, hlen, hm⟩) (s := ([], 0)) ⟨0, rfl, by omega, List.Pairwise.nil, by simp, fun x => by simp [starL]⟩
    exact ⟨y, hy, hq⟩
  refine ⟨ns, h1, ?_, h2, h3, h4⟩
  unfold impl_namesOf__impl_starOf
  have hw : whileE (impl_namesOf__impl_starOf_l1 l (l.length : Int)) (([] : List Bs), 0) = some (starL l) := by
    have := while_up (step := impl_namesOf__impl_starOf_l1 l (l.length : Int)) (fun i => starL (l.take i)) l.length (r := starL l) (fun i hi => by
      have e1 : (starL (l.take i)).length ≤ i := by simp [starL]; omega
      simp only [impl_namesOf__impl_starOf_l1, impl_starOf, ixOk_nat, hi, decide_true, ck_true, Int.ofNat_lt, if_true, Int.toNat_natCast, wrap_nat1 (show i < 9223372036854775807 by omega), Option.bind_some]
      rw [appOk_of (by simp; omega), ck_true, List.take_add_one, List.getElem?_eq_getElem hi, getD_lt hi]
      simp only [starL, List.map_append, Option.toList_some, List.map_cons, List.map_nil]) (by rw [List.take_length]; simp [impl_namesOf__impl_starOf_l1])
    simpa [starL] using this
  rw [hw]
  have l1 : (starL l).length = l.length := by simp [starL]
  simp only [Option.bind_some]
  unfold hSort
  rw [if_pos (by omega)]
  simp only [Option.bind_some]
  unfold hCompact
  rw [if_pos (by rw [sortS_len]; omega)]
  simp only [Option.bind_some, Option.some.injEq]
  refine strict_unique (compS_strict (sortS_le _)) h2 fun x => ?_
  rw [compS_mem, sortS_mem, h4]

end Go.Proofs.YtbobhejdijcofaaGreatDoor

/- What typed forms say: decimal numerals. No condition. -/
namespace Go.Proofs.YtbobhejdijcofaaGreatDoor
open Go Go.RowKit
set_option linter.unusedSimpArgs false
set_option linter.unusedVariables false

theorem nDigits_le : ∀ (k u : Nat), u < 10 ^ (k + 1) → Lib.nDigits u ≤ k + 1
  | 0, u, h => by rw [Lib.nDigits_small (by simpa using h)]; omega
  | k + 1, u, h => by
    by_cases c : u < 10
    · rw [Lib.nDigits_small c]; omega
    · rw [Lib.nDigits_big c]
      have := nDigits_le k (u / 10) (by rw [Nat.pow_succ] at h; omega)
      omega

theorem decDigits_len {u : Nat} (h : u ≤ 9223372036854775808) : (Lib.decDigits u).length ≤ 20 := by
  rw [Lib.decDigits_length]
  exact nDigits_le 19 u (by omega)

theorem decDigits_ne (u : Nat) : 1 ≤ (Lib.decDigits u).length := by
  rw [Lib.decDigits_length]; exact Lib.nDigits_pos u

theorem itoa_len {n : Int} (h : R64 n) : (Lib.itoa n).length ≤ 21 := by
  obtain ⟨h1, h2⟩ := h
  unfold Lib.itoa
  split
  · have := decDigits_len (u := n.natAbs) (by omega)
    simp; omega
  · have := decDigits_len (u := n.toNat) (by omega)
    omega

theorem digit_u8 {d : Nat} (h : d < 10) : toU8 (IntKind.u8.wrap (IntKind.i64.wrap (48 + (d : Int)))) = UInt8.ofNat (48 + d) := by
  have : d = 0 ∨ d = 1 ∨ d = 2 ∨ d = 3 ∨ d = 4 ∨ d = 5 ∨ d = 6 ∨ d = 7 ∨ d = 8 ∨ d = 9 := by omega
  rcases this with rfl | rfl | rfl | rfl | rfl | rfl | rfl | rfl | rfl | rfl <;> decide +kernel

def decInv (n : Int) (m : Nat) (s : List UInt8 × Int) : Prop :=
  ∃ u : Nat, s.2 = (if n < 0 then -(u : Int) else (u : Int)) ∧ u ≤ m ∧ (if u = 0 then s.1 = Lib.decDigits m else Lib.decDigits m = Lib.decDigits u ++ s.1)

theorem dec_step {n : Int} {m : Nat} (hm : m ≤ 9223372036854775808) {out : List UInt8} {u : Nat} (hu : u ≤ m) (h0 : u ≠ 0) (h : Lib.decDigits m = Lib.decDigits u ++ out) :
    spec_l01Dec_l1 n (out, if n < 0 then -(u : Int) else (u : Int)) = some (.inl (UInt8.ofNat (48 + u % 10) :: out, if n < 0 then -((u / 10 : Nat) : Int) else ((u / 10 : Nat) : Int))) ∧
    (if u / 10 = 0 then UInt8.ofNat (48 + u % 10) :: out = Lib.decDigits m else Lib.decDigits m = Lib.decDigits (u / 10) ++ UInt8.ofNat (48 + u % 10) :: out) := by
  have hl : out.length ≤ 20 := by
    have := decDigits_len hm
    rw [h, List.length_append] at this; omega
  constructor
  · have t1 : ((u : Int)).tmod 10 = ((u % 10 : Nat) : Int) := by rw [Int.tmod_eq_emod_of_nonneg (by omega)]; omega
    have t2 : ((u : Int)).tdiv 10 = ((u / 10 : Nat) : Int) := by rw [Int.tdiv_eq_ediv_of_nonneg (by omega)]; omega
    have w : IntKind.i64.wrap ((u % 10 : Nat) : Int) = ((u % 10 : Nat) : Int) := wrap_i64 (by omega) (by omega)
    have ha : appOk (([UInt8.ofNat (48 + u % 10)] : List UInt8).length + out.length) 1 = true := appOk_of (by simp; omega)
    by_cases hn : n < 0
    · have k0 : ((-(u : Int)) == 0) = false := by rw [beq_eq_false_iff_ne]; omega
      have w2 : IntKind.i64.wrap (-((u / 10 : Nat) : Int)) = -((u / 10 : Nat) : Int) := wrap_i64 (by omega) (by omega)
      simp only [spec_l01Dec_l1, hn, if_true, k0, Bool.not_false, nz_of (show (10 : Int) ≠ 0 by decide), ck_true, Int.neg_tmod, Int.neg_tdiv, t1, t2, w2]
      by_cases hd : u % 10 = 0
      · have e : ¬ (-(((u % 10 : Nat)) : Int) < 0) := by omega
        simp only [e, decide_false, Bool.false_eq_true, if_false]
        have e2 : (-((u % 10 : Nat) : Int)) = ((u % 10 : Nat) : Int) := by omega
        rw [e2, digit_u8 (Nat.mod_lt _ (by omega)), ha, ck_true]; rfl
      · have e : (-(((u % 10 : Nat)) : Int) < 0) := by omega
        have e2 : (0 - -((u % 10 : Nat) : Int)) = ((u % 10 : Nat) : Int) := by omega
        simp only [e, decide_true, if_true, e2, w]
        rw [digit_u8 (Nat.mod_lt _ (by omega)), ha, ck_true]; rfl
    · have k0 : ((u : Int) == 0) = false := by rw [beq_eq_false_iff_ne]; omega
      have w2 : IntKind.i64.wrap ((u / 10 : Nat) : Int) = ((u / 10 : Nat) : Int) := wrap_i64 (by omega) (by omega)
      have e : ¬ ((((u % 10 : Nat)) : Int) < 0) := by omega
      simp only [spec_l01Dec_l1, hn, if_false, k0, Bool.not_false, if_true, nz_of (show (10 : Int) ≠ 0 by decide), ck_true, t1, t2, w2, e, decide_false, Bool.false_eq_true]
      rw [digit_u8 (Nat.mod_lt _ (by omega)), ha, ck_true]; rfl
  · by_cases c : u < 10
    · have e : u / 10 = 0 := by omega
      rw [if_pos e, h, Lib.decDigits_one c, Nat.mod_eq_of_lt c]; rfl
    · have e : ¬ u / 10 = 0 := by omega
      rw [if_neg e, h, Lib.decDigits, dif_neg c, List.append_assoc]; rfl

theorem l01Dec_is {n : Int} (hr : R64 n) : spec_l01Dec n = some (Lib.itoa n) := by
  obtain ⟨h1, h2⟩ := hr
  by_cases h0 : n = 0
  · subst h0
    unfold spec_l01Dec
    rw [whileE_done (r := ([] : List UInt8)) (by simp [spec_l01Dec_l1])]
    simp [Lib.itoa, Lib.decDigits]
  · obtain ⟨m, hm, hm0, hmn⟩ : ∃ m : Nat, m ≤ 9223372036854775808 ∧ m ≠ 0 ∧ n = (if n < 0 then -(m : Int) else (m : Int)) := by
      by_cases hn : n < 0
      · exact ⟨n.natAbs, by omega, by omega, by rw [if_pos hn]; omega⟩
      · exact ⟨n.toNat, by omega, by omega, by rw [if_neg hn]; omega⟩
    have hw : whileE (spec_l01Dec_l1 n) (([] : List UInt8), n) = some (Lib.decDigits m) := by
      obtain ⟨y, hy, hq⟩ := while_post (step := spec_l01Dec_l1 n) (decInv n m) (fun y => y = Lib.decDigits m) (fun s => s.2.natAbs) (by
        rintro ⟨out, k⟩ ⟨u, hk, hu, hd⟩
        simp only at hk hd
        subst hk
        by_cases hu0 : u = 0
        · subst hu0
          right
          rw [if_pos rfl] at hd
          refine ⟨out, ?_, hd⟩
          split <;> simp [spec_l01Dec_l1]
        · left
          rw [if_neg hu0] at hd
          obtain ⟨e1, e2⟩ := dec_step (n := n) hm hu hu0 hd
          refine ⟨_, e1, ⟨u / 10, rfl, by omega, e2⟩, ?_⟩
          show Int.natAbs (if n < 0 then _ else _) < Int.natAbs (if n < 0 then _ else _)
          split <;> omega) (s := (([] : List UInt8), n)) ⟨m, hmn, Nat.le_refl _, by rw [if_neg hm0, List.append_nil]⟩
      rw [hy, hq]
    unfold spec_l01Dec
    rw [hw]
    have hl1 := decDigits_ne m
    have hl2 := decDigits_len hm
    have e : (((Lib.decDigits m).length : Int) == 0) = false := by rw [beq_eq_false_iff_ne]; omega
    simp only [Option.bind_some, e, Bool.false_eq_true, if_false]
    unfold Lib.itoa
    by_cases hn : n < 0
    · rw [if_pos hn] at hmn
      have e2 : n.natAbs = m := by omega
      simp only [hn, decide_true, if_true, e2]
      rw [catOk_of (by simp; omega), ck_true]; rfl
    · rw [if_neg hn] at hmn
      have e2 : n.toNat = m := by omega
      simp [hn, e2]

theorem Decimal_is {n : Int} (hr : R64 n) : impl_Decimal n = some (Lib.itoa n) := by
  obtain ⟨h1, h2⟩ := hr
  unfold impl_Decimal strconv_FormatInt hFmt
  simp [h1, h2]

end Go.Proofs.YtbobhejdijcofaaGreatDoor

/- Plain texts: splitting, cutting, decimal numerals. No condition. -/
namespace Go.Proofs.YtbobhejdijcofaaGreatDoor
open Go Go.RowKit
set_option linter.unusedSimpArgs false
set_option linter.unusedVariables false

/-! ### Parts of a text -/

def splitAcc (c : UInt8) : List UInt8 → List UInt8 → List (List UInt8)
  | acc, [] => [acc]
  | acc, x :: r => if x = c then acc :: splitAcc c [] r else splitAcc c (acc ++ [x]) r

def splitOn (c : UInt8) (s : List UInt8) : List (List UInt8) := splitAcc c [] s

theorem splitAcc_no {c : UInt8} : ∀ {s acc : List UInt8}, c ∉ s → splitAcc c acc s = [acc ++ s]
  | [], acc, _ => by simp [splitAcc]
  | x :: r, acc, h => by
    have hx : x ≠ c := fun e => h (by simp [e])
    rw [splitAcc, if_neg hx, splitAcc_no (fun hm => h (by simp [hm])), List.append_assoc]; rfl

theorem splitAcc_app {c : UInt8} : ∀ {a acc b : List UInt8}, c ∉ a → splitAcc c acc (a ++ c :: b) = (acc ++ a) :: splitAcc c [] b
  | [], acc, b, _ => by simp [splitAcc]
  | x :: r, acc, b, h => by
    have hx : x ≠ c := fun e => h (by simp [e])
    rw [List.cons_append, splitAcc, if_neg hx, splitAcc_app (fun hm => h (by simp [hm])), List.append_assoc]; rfl

theorem splitAcc_ne (c : UInt8) : ∀ s acc : List UInt8, splitAcc c acc s ≠ []
  | [], acc => by simp [splitAcc]
  | x :: r, acc => by
    rw [splitAcc]
    split
    · simp
    · exact splitAcc_ne c r _

theorem splitAcc_len (c : UInt8) : ∀ s acc : List UInt8, 1 ≤ (splitAcc c acc s).length ∧ (splitAcc c acc s).length ≤ s.length + 1
  | [], acc => by simp [splitAcc]
  | x :: r, acc => by
    rw [splitAcc]
    split
    · have := splitAcc_len c r []
      simp only [List.length_cons]; omega
    · have := splitAcc_len c r (acc ++ [x])
      simp only [List.length_cons]; omega

/-- The parts of a text, put together again. -/
def joinOn (c : UInt8) : List (List UInt8) → List UInt8
  | [] => []
  | [a] => a
  | a :: b :: r => a ++ c :: joinOn c (b :: r)

theorem join_splitAcc (c : UInt8) : ∀ s acc : List UInt8, joinOn c (splitAcc c acc s) = acc ++ s
  | [], acc => by simp [splitAcc, joinOn]
  | x :: r, acc => by
    rw [splitAcc]
    split
    · rename_i e
      have h := join_splitAcc c r []
      cases hs : splitAcc c [] r with
      | nil => exact absurd hs (splitAcc_ne c r [])
      | cons b t => rw [hs] at h; rw [joinOn, h, e]; rfl
    · rw [join_splitAcc c r (acc ++ [x]), List.append_assoc]; rfl

theorem part_free (c : UInt8) : ∀ {s acc : List UInt8}, c ∉ acc → ∀ p ∈ splitAcc c acc s, c ∉ p
  | [], acc, h, p, hp => by simp [splitAcc] at hp; rw [hp]; exact h
  | x :: r, acc, h, p, hp => by
    rw [splitAcc] at hp
    split at hp
    · rcases List.mem_cons.1 hp with e | hp
      · rw [e]; exact h
      · exact part_free c (by simp) p hp
    · rename_i hx
      exact part_free c (by simp only [List.mem_append, List.mem_singleton, not_or]; exact ⟨h, fun e => hx e.symm⟩) p hp

theorem split_join (c : UInt8) : ∀ (l : List (List UInt8)), l ≠ [] → (∀ p ∈ l, c ∉ p) → splitOn c (joinOn c l) = l
  | [], h, _ => absurd rfl h
  | [a], _, h => by
    unfold splitOn joinOn
    rw [splitAcc_no (h a (by simp))]; rfl
  | a :: b :: r, _, h => by
    have ih := split_join c (b :: r) (by simp) (fun p hp => h p (by simp [hp]))
    unfold splitOn at ih ⊢
    rw [joinOn, splitAcc_app (h a (by simp)), ih]; rfl

/-! ### Where a byte stands -/

theorem idx_cases (c : UInt8) : ∀ s : List UInt8, (Lib.index s [c] = -1 ∧ c ∉ s) ∨ ∃ a b, s = a ++ c :: b ∧ c ∉ a ∧ Lib.index s [c] = a.length
  | [] => .inl ⟨by simp [Lib.index], by simp⟩
  | x :: r => by
    unfold Lib.index
    by_cases e : x = c
    · subst e
      exact .inr ⟨[], r, rfl, by simp, by simp⟩
    · have e1 : (List.isPrefixOf [c] (x :: r)) = false := by
        simp only [List.isPrefixOf, Bool.and_true, beq_eq_false_iff_ne]; exact fun h => e h.symm
      rw [e1]
      rcases idx_cases c r with ⟨h1, h2⟩ | ⟨a, b, rfl, h2, h3⟩
      · exact .inl ⟨by simp [h1], by simp only [List.mem_cons, not_or]; exact ⟨fun h => e h.symm, h2⟩⟩
      · refine .inr ⟨x :: a, b, rfl, by simp only [List.mem_cons, not_or]; exact ⟨fun h => e h.symm, h2⟩, ?_⟩
        rw [h3]
        have : (((a.length : Int)) == -1) = false := by rw [beq_eq_false_iff_ne]; omega
        simp [this]

theorem cut_no {c : UInt8} {s : List UInt8} (h : c ∉ s) : Lib.cut s [c] = (s, [], false) := by
  rcases idx_cases c s with ⟨h1, _⟩ | ⟨a, b, rfl, _, _⟩
  · unfold Lib.cut; rw [h1, if_neg (by decide)]
  · exact absurd (by simp) h

theorem cut_yes {c : UInt8} {a b : List UInt8} (h : c ∉ a) : Lib.cut (a ++ c :: b) [c] = (a, b, true) := by
  rcases idx_cases c (a ++ c :: b) with ⟨_, h2⟩ | ⟨a', b', e, h2, h3⟩
  · exact absurd (by simp) h2
  · have ha : a' = a ∧ b' = b := by
      have s1 := splitAcc_app (acc := []) (b := b) h
      have s2 := splitAcc_app (acc := []) (b := b') h2
      rw [e, s2] at s1
      have : [] ++ a' = [] ++ a := (List.cons.inj s1).1
      have hab : a' = a := by simpa using this
      subst hab
      exact ⟨rfl, ((List.cons.inj (List.append_cancel_left e)).2).symm⟩
    obtain ⟨rfl, rfl⟩ := ha
    unfold Lib.cut
    rw [h3, if_pos (by omega)]
    simp

theorem splitK_is (c : UInt8) : ∀ (k : Nat) (s : List UInt8), s.count c = k → Lib.splitK [c] 0 k s = splitOn c s := by
  intro k
  induction k with
  | zero =>
    intro s h
    have hc : c ∉ s := List.count_eq_zero.1 h
    unfold splitOn
    rw [splitAcc_no hc]; rfl
  | succ k ih =>
    intro s h
    rcases idx_cases c s with ⟨h1, h2⟩ | ⟨a, b, rfl, h2, h3⟩
    · rw [List.count_eq_zero.2 h2] at h; omega
    · unfold Lib.splitK
      have hne : ((a.length : Int) == -1) = false := by rw [beq_eq_false_iff_ne]; omega
      rw [h3]
      simp only [hne, Bool.false_eq_true, if_false]
      have hcnt : b.count c = k := by
        rw [List.count_append, List.count_eq_zero.2 h2, List.count_cons_self] at h; omega
      have e1 : (a ++ c :: b).take ((a.length : Int).toNat + 0) = a := by simp
      have e2 : (a ++ c :: b).drop ((a.length : Int).toNat + ([c] : List UInt8).length) = b := by simp
      unfold splitOn
      rw [splitAcc_app h2]
      first
        | rw [e1, e2, ih b hcnt]
        | (rw [e2, ih b hcnt]; simp [splitOn])
      rfl

theorem count_one (c : UInt8) : ∀ (f : Nat) (s : List UInt8), s.length < f → Lib.countFrom [c] f s = s.count c := by
  intro f
  induction f with
  | zero => intro s h; omega
  | succ f ih =>
    intro s h
    unfold Lib.countFrom
    rcases idx_cases c s with ⟨h1, h2⟩ | ⟨a, b, rfl, h2, h3⟩
    · simp [h1, List.count_eq_zero.2 h2]
    · have hne : ((a.length : Int) == -1) = false := by rw [beq_eq_false_iff_ne]; omega
      rw [h3]
      simp only [hne, Bool.false_eq_true, if_false]
      have e2 : (a ++ c :: b).drop ((a.length : Int).toNat + ([c] : List UInt8).length) = b := by simp
      rw [e2, ih b (by simp at h; omega), List.count_append, List.count_eq_zero.2 h2, List.count_cons_self]
      omega

theorem split_is (c : UInt8) (s : List UInt8) : Lib.split s [c] = splitOn c s := by
  unfold Lib.split Lib.count
  rw [count_one c _ s (by omega)]
  exact splitK_is c _ s rfl

theorem hSplit_one {c : UInt8} {s : List UInt8} (h : s.length < 4294967281) : hSplit s [c] = some (splitOn c s) := by
  unfold hSplit
  rw [split_is]
  simp [h]

theorem hCut_one {c : UInt8} {s : List UInt8} (h : s.length < 4294967281) : hCut s [c] = some (Lib.cut s [c]) := by
  unfold hCut; rw [if_pos h]

/-! ### Digits -/

def dig (c : UInt8) : Bool := decide (48 ≤ (c.toNat : Int)) && decide ((c.toNat : Int) ≤ 57)

theorem dig_iff {c : UInt8} : dig c = true ↔ 48 ≤ c.toNat ∧ c.toNat ≤ 57 := by
  unfold dig
  simp only [Bool.and_eq_true, decide_eq_true_eq]
  omega

def valF (n : Nat) (l : List UInt8) : Nat := l.foldl (fun n c => n * 10 + (c.toNat - 48)) n
theorem valF_nil (n : Nat) : valF n [] = n := by unfold valF; rw [List.foldl_nil]
theorem valF_cons (n : Nat) (c : UInt8) (r : List UInt8) : valF n (c :: r) = valF (n * 10 + (c.toNat - 48)) r := by unfold valF; rw [List.foldl_cons]

theorem valF_lt {l : List UInt8} : ∀ {n a : Nat}, n < 10 ^ a → l.all dig = true → valF n l < 10 ^ (a + l.length) := by
  induction l with
  | nil => intro n a h _; rw [valF_nil]; exact h
  | cons c r ih =>
    intro n a h hd
    simp only [List.all_cons, Bool.and_eq_true] at hd
    have hc := dig_iff.1 hd.1
    have h2 : n * 10 + (c.toNat - 48) < 10 ^ (a + 1) := by rw [Nat.pow_succ]; omega
    have := ih h2 hd.2
    rw [valF_cons, List.length_cons]
    rwa [Nat.add_assoc, Nat.add_comm 1] at this

theorem pow_small {k : Nat} (h : k ≤ 18) : (10 : Nat) ^ k ≤ 1000000000000000000 := Nat.pow_le_pow_right (by omega) h

/-- What the parsing of a text that is no numeral ends with. -/
def noNum := Lib.parseUintM 0 0 [0]

theorem parse_digits {l : List UInt8} : ∀ {n a : Nat}, n < 10 ^ a → a + l.length ≤ 18 → Lib.parseUintM (2 ^ 64 - 1) n l = if l.all dig = true then .ok (valF n l) else noNum := by
  induction l with
  | nil => intro n a _ _; simp [Lib.parseUintM, valF_nil]
  | cons c r ih =>
    intro n a h hl
    rw [List.length_cons] at hl
    have hp := pow_small (show a ≤ 18 by omega)
    have hp1 := pow_small (show a + 1 ≤ 18 by omega)
    rw [Lib.parseUintM]
    by_cases hc : 48 ≤ c.toNat ∧ c.toNat ≤ 57
    · have h2 : n * 10 + (c.toNat - 48) < 10 ^ (a + 1) := by rw [Nat.pow_succ]; omega
      rw [if_pos hc, if_neg (by omega), if_neg (by omega), ih h2 (by omega)]
      simp only [List.all_cons, dig_iff.2 hc, Bool.true_and, valF_cons]
    · rw [if_neg hc]
      have : dig c = false := by
        cases hd : dig c with
        | false => rfl
        | true => exact absurd (dig_iff.1 hd) hc
      simp only [List.all_cons, this, Bool.false_and, Bool.false_eq_true, if_false]
      rfl

theorem dec_dig : ∀ (k u : Nat), u < 10 ^ (k + 1) → (Lib.decDigits u).all dig = true
  | 0, u, h => by
    have h : u < 10 := by simpa using h
    rw [Lib.decDigits_one h]
    simp only [List.all_cons, List.all_nil, Bool.and_true, dig_iff, UInt8.toNat_ofNat']
    omega
  | k + 1, u, h => by
    by_cases c : u < 10
    · rw [Lib.decDigits_one c]
      simp only [List.all_cons, List.all_nil, Bool.and_true, dig_iff, UInt8.toNat_ofNat']
      omega
    · rw [Lib.decDigits, dif_neg c, List.all_append, dec_dig k (u / 10) (by rw [Nat.pow_succ] at h; omega)]
      simp only [List.all_cons, List.all_nil, Bool.and_true, Bool.true_and, dig_iff, UInt8.toNat_ofNat']
      omega

theorem dec_all (u : Nat) : (Lib.decDigits u).all dig = true := dec_dig u u (Nat.lt_of_lt_of_le (Nat.lt_pow_self (by omega)) (Nat.pow_le_pow_right (by omega) (by omega)))

theorem itoa_plus (n : Int) (r : List UInt8) : Lib.itoa n ≠ 43 :: r := by
  intro h
  unfold Lib.itoa at h
  split at h
  · have := (List.cons.inj h).1
    exact absurd this (by decide)
  · have := dec_all n.toNat
    rw [h] at this
    simp [dig] at this

theorem trim_minus (r : List UInt8) : Lib.trimPrefix (45 :: r) [45] = r := by simp [Lib.trimPrefix, Lib.hasPrefix]
theorem trim_other {c : UInt8} {r : List UInt8} (h : c ≠ 45) : Lib.trimPrefix (c :: r) [45] = c :: r := by
  unfold Lib.trimPrefix Lib.hasPrefix
  have : (List.isPrefixOf [45] (c :: r)) = false := by
    simp only [List.isPrefixOf, Bool.and_true, beq_eq_false_iff_ne]; exact fun e => h e.symm
  simp [this]

/-- What the program's reading of a numeral gives, by digits. -/
theorem rdDec_minus {r : List UInt8} : rdDec (45 :: r) = if r.length < 1 ∨ 18 < r.length then (0, false) else if r.all dig = true then (if Lib.itoa (-(valF 0 r : Int)) = 45 :: r then (-(valF 0 r : Int), true) else (0, false)) else (0, false) := by
  unfold rdDec
  rw [trim_minus]
  by_cases h : r.length < 1 ∨ 18 < r.length
  · rw [if_pos h, if_pos h]
  · rw [if_neg h, if_neg h]
    have hne : r ≠ [] := fun e => h (.inl (by simp [e]))
    have hp := parse_digits (l := r) (n := 0) (a := 0) (by simp) (by omega)
    have e43 : ((45 : UInt8).toNat = 43 ∨ (45 : UInt8).toNat = 45) := .inr rfl
    unfold Lib.parseIntB
    simp only [e43, if_true, Lib.parseUintB, hne, if_false, hp]
    by_cases hd : r.all dig = true
    · have hv := valF_lt (l := r) (n := 0) (a := 0) (by simp) hd
      have hv2 := pow_small (k := 0 + r.length) (by omega)
      have e45 : ((45 : UInt8).toNat = 45) := rfl
      have n2 : ¬ (2 ^ (64 - 1) < valF 0 r) := by omega
      simp only [hd, if_true, e45, not_true_eq_false, false_and, if_false, true_and, n2]
    · simp only [hd, Bool.false_eq_true, if_false]
      rfl

theorem rdDec_other {c : UInt8} {r : List UInt8} (hc : c ≠ 45) : rdDec (c :: r) = if (c :: r).length < 1 ∨ 18 < (c :: r).length then (0, false) else if (c :: r).all dig = true then (if Lib.itoa (valF 0 (c :: r) : Int) = c :: r then ((valF 0 (c :: r) : Int), true) else (0, false)) else (0, false) := by
  unfold rdDec
  rw [trim_other hc]
  by_cases h : (c :: r).length < 1 ∨ 18 < (c :: r).length
  · rw [if_pos h, if_pos h]
  · rw [if_neg h, if_neg h]
    have e45 : ¬ (c.toNat = 45) := fun e => hc (by rw [← UInt8.toNat_inj]; exact e)
    by_cases h43 : c = 43
    · subst h43
      have hd : ((43 : UInt8) :: r).all dig = false := by simp [dig]
      rw [hd]
      simp only [Bool.false_eq_true, if_false]
      rcases hp : Lib.parseIntB 64 (43 :: r) with v | _ | _
      · simp only [if_neg (itoa_plus v r)]
      · rfl
      · rfl
    · have e43 : ¬ (c.toNat = 43 ∨ c.toNat = 45) := fun e => by
        rcases e with e | e
        · exact h43 (by rw [← UInt8.toNat_inj]; exact e)
        · exact e45 e
      have hp := parse_digits (l := c :: r) (n := 0) (a := 0) (by simp) (by omega)
      unfold Lib.parseIntB
      simp only [e43, if_false, Lib.parseUintB, List.cons_ne_nil, hp]
      by_cases hd : (c :: r).all dig = true
      · have hv := valF_lt (l := c :: r) (n := 0) (a := 0) (by simp) hd
        have hv2 := pow_small (k := 0 + (c :: r).length) (by omega)
        have n1 : ¬ (2 ^ (64 - 1) ≤ valF 0 (c :: r)) := by omega
        simp only [hd, if_true, e45, not_false_eq_true, true_and, n1, false_and, if_false]
      · simp only [hd, Bool.false_eq_true, if_false]
        rfl

end Go.Proofs.YtbobhejdijcofaaGreatDoor

/- What typed forms say: magnitudes as texts, both sides. No condition. -/
namespace Go.Proofs.YtbobhejdijcofaaGreatDoor
open Go Go.RowKit
set_option linter.unusedSimpArgs false
set_option linter.unusedVariables false

theorem itoa_nat (u : Nat) : Lib.itoa (u : Int) = Lib.decDigits u := by unfold Lib.itoa; rw [if_neg (by omega)]; simp

def dg (n : Nat) : UInt8 := UInt8.ofNat (48 + n)
def d2 (n : Nat) : List UInt8 := [dg (n / 10), dg (n % 10)]
def d3 (n : Nat) : List UInt8 := [dg (n / 100), dg (n / 10 % 10), dg (n % 10)]

theorem dec1 {n : Nat} (h : n < 10) : Lib.decDigits n = [dg n] := Lib.decDigits_one h
theorem dec2 {n : Nat} (h : ¬ n < 10) : Lib.decDigits n = Lib.decDigits (n / 10) ++ [dg (n % 10)] := by rw [Lib.decDigits, dif_neg h]; rfl

theorem padded_loop (k : Nat) (hk : k ≤ 100) (s : List UInt8) (hs : s.length ≤ 100) : whileE (impl_padded_l1 (k : Int)) s = some (List.replicate (k - s.length) 48 ++ s) := by
  generalize hm : k - s.length = m
  induction m generalizing s with
  | zero =>
    refine whileE_done ?_
    have : ¬ (s.length : Int) < (k : Int) := by omega
    simp [impl_padded_l1, this]
  | succ m ih =>
    have hlt : (s.length : Int) < (k : Int) := by omega
    rw [whileE_next (s' := [48] ++ s) (by
      simp only [impl_padded_l1, hlt, decide_true, if_true]
      rw [catOk_of (by simp; omega), ck_true]), ih ([48] ++ s) (by simp; omega) (by simp; omega)]
    rw [List.replicate_succ', List.append_assoc]

theorem padded_is {n : Nat} {k : Nat} (hk : k ≤ 100) (h : n ≤ 1000000000) : impl_padded (n : Int) (k : Int) = some (List.replicate (k - (Lib.decDigits n).length) 48 ++ Lib.decDigits n) := by
  unfold impl_padded
  have hl := decDigits_len (u := n) (by omega)
  rw [Decimal_is (n := (n : Int)) ⟨by omega, by omega⟩, itoa_nat]
  simp only [Option.bind_some]
  rw [padded_loop k hk _ (by omega)]
  rfl

theorem padded3 {n : Nat} (h : n ≤ 999) : impl_padded (n : Int) 3 = some (d3 n) := by
  have := padded_is (n := n) (k := 3) (by omega) (by omega)
  rw [show ((3 : Nat) : Int) = 3 by rfl] at this
  rw [this]
  by_cases c : n < 10
  · rw [dec1 c]
    have e1 : n / 10 % 10 = 0 := by omega
    have e2 : n % 10 = n := by omega
    have e3 : n / 100 = 0 := by omega
    simp only [d3, e1, e2, e3]; rfl
  · by_cases c2 : n < 100
    · rw [dec2 c, dec1 (show n / 10 < 10 by omega)]
      have e1 : n / 10 % 10 = n / 10 := by omega
      have e3 : n / 100 = 0 := by omega
      simp only [d3, e1, e3]; rfl
    · rw [dec2 c, dec2 (show ¬ n / 10 < 10 by omega), dec1 (show n / 10 / 10 < 10 by omega)]
      have e3 : n / 10 / 10 = n / 100 := by omega
      simp only [d3, e3]; rfl

/-! ### Magnitudes -/

def magT (m : Int) : List UInt8 := (if m < 0 then ([45] : List UInt8) else []) ++ Lib.decDigits (m.natAbs / 1000) ++ [46] ++ d3 (m.natAbs % 1000)

theorem decDigits_all (u : Nat) : ∀ c, c ∈ Lib.decDigits u → 48 ≤ c.toNat ∧ c.toNat ≤ 57 := fun c hc => dig_iff.1 (List.all_eq_true.1 (dec_all u) c hc)

theorem decDigits_cons (u : Nat) : ∃ c r, Lib.decDigits u = c :: r ∧ 48 ≤ c.toNat ∧ c.toNat ≤ 57 := by
  have hne := decDigits_ne u
  cases hd : Lib.decDigits u with
  | nil => rw [hd] at hne; exact absurd hne (by simp)
  | cons c r => exact ⟨c, r, rfl, decDigits_all u c (by rw [hd]; simp)⟩

theorem not_dig {c d : UInt8} (h : 48 ≤ d.toNat ∧ d.toNat ≤ 57) (hc : c.toNat < 48 ∨ 57 < c.toNat) : d ≠ c := fun e => by subst e; omega

theorem magT_len {m : Int} (h0 : -2000 ≤ m) (h1 : m ≤ 20000) : 1 ≤ (magT m).length ∧ (magT m).length ≤ 30 := by
  have := decDigits_len (u := m.natAbs / 1000) (by omega)
  unfold magT d3
  simp only [List.length_append, List.length_cons, List.length_nil]
  split <;> simp <;> omega

theorem MagText_is {m : Int} (h0 : -2000 ≤ m) (h1 : m ≤ 20000) : impl_MagText m = some (magT m) := by
  have hv : impl_ValidMag m = some true := by
    unfold impl_ValidMag
    rw [impl_in_is]
    simp [h0, h1]
  have hl := decDigits_len (u := m.natAbs / 1000) (by omega)
  unfold impl_MagText
  rw [hv]
  simp only [Option.bind_some, Bool.not_true, Bool.false_eq_true, if_false]
  have hd : ∀ z : Int, z = (m.natAbs : Int) → IntKind.i64.wrap (z.tdiv 1000) = ((m.natAbs / 1000 : Nat) : Int) ∧ z.tmod 1000 = ((m.natAbs % 1000 : Nat) : Int) := by
    rintro z rfl
    rw [Int.tdiv_eq_ediv_of_nonneg (by omega), Int.tmod_eq_emod_of_nonneg (by omega), wrap_i64 (by omega) (by omega)]
    omega
  have hp := padded3 (n := m.natAbs % 1000) (by omega)
  have hD : impl_Decimal ((m.natAbs / 1000 : Nat) : Int) = some (Lib.decDigits (m.natAbs / 1000)) := by rw [Decimal_is ⟨by omega, by omega⟩, itoa_nat]
  have h3 : (d3 (m.natAbs % 1000)).length = 3 := rfl
  by_cases hn : m < 0
  · have ha : impl_abs m = some (m.natAbs : Int) := by
      unfold impl_abs
      rw [if_pos (by simpa using hn), wrap_i64 (by omega) (by omega)]
      congr 1; omega
    obtain ⟨d1, d2⟩ := hd _ rfl
    rw [if_pos (by simpa using hn), ha]
    simp only [Option.bind_some, d1, d2, hD, hp]
    rw [nz_of (by decide), ck_true, catOk_of (by simp; omega), ck_true, catOk_of (by simp; omega), ck_true, catOk_of (by simp; omega), ck_true]
    unfold magT
    rw [if_pos hn]
  · have ha : impl_abs m = some (m.natAbs : Int) := by
      unfold impl_abs
      rw [if_neg (by simpa using hn)]
      congr 1; omega
    obtain ⟨d1, d2⟩ := hd _ rfl
    rw [if_neg (by simpa using hn), ha]
    simp only [Option.bind_some, d1, d2, hD, hp]
    rw [nz_of (by decide), ck_true, catOk_of (by simp; omega), ck_true, catOk_of (by simp; omega), ck_true, catOk_of (by simp; omega), ck_true]
    unfold magT
    rw [if_neg hn]

/-- What is cut off in front. -/

theorem dec_dg {n : Nat} (h : n < 10) : spec_l01Dec (n : Int) = some [dg n] := by
  rw [l01Dec_is (n := (n : Int)) ⟨by omega, by omega⟩, itoa_nat, dec1 h]

theorem l02Three_is {n : Nat} (h : n ≤ 999) : spec_l02Three (n : Int) = some (d3 n) := by
  unfold spec_l02Three
  have e1 : IntKind.i64.wrap ((n : Int).tdiv 100) = ((n / 100 : Nat) : Int) := by rw [Int.tdiv_eq_ediv_of_nonneg (by omega), wrap_i64 (by omega) (by omega)]; omega
  have e2 : (IntKind.i64.wrap ((n : Int).tdiv 10)).tmod 10 = ((n / 10 % 10 : Nat) : Int) := by rw [Int.tdiv_eq_ediv_of_nonneg (by omega), wrap_i64 (by omega) (by omega), Int.tmod_eq_emod_of_nonneg (by omega)]; omega
  have e3 : (n : Int).tmod 10 = ((n % 10 : Nat) : Int) := by rw [Int.tmod_eq_emod_of_nonneg (by omega)]; omega
  rw [e1, e2, e3, dec_dg (show n / 100 < 10 by omega), dec_dg (show n / 10 % 10 < 10 by omega), dec_dg (show n % 10 < 10 by omega)]
  rfl

theorem l02Text_is {m : Int} (h0 : -2000 ≤ m) (h1 : m ≤ 20000) : spec_l02Text m = some (magT m) := by
  have hl := decDigits_len (u := m.natAbs / 1000) (by omega)
  have hd : ∀ z : Int, z = (m.natAbs : Int) → IntKind.i64.wrap (z.tdiv 1000) = ((m.natAbs / 1000 : Nat) : Int) ∧ z.tmod 1000 = ((m.natAbs % 1000 : Nat) : Int) := by
    rintro z rfl
    rw [Int.tdiv_eq_ediv_of_nonneg (by omega), Int.tmod_eq_emod_of_nonneg (by omega), wrap_i64 (by omega) (by omega)]
    omega
  have hp := l02Three_is (n := m.natAbs % 1000) (by omega)
  have hD : spec_l01Dec ((m.natAbs / 1000 : Nat) : Int) = some (Lib.decDigits (m.natAbs / 1000)) := by rw [l01Dec_is ⟨by omega, by omega⟩, itoa_nat]
  have h3 : (d3 (m.natAbs % 1000)).length = 3 := rfl
  unfold spec_l02Text
  by_cases hn : m < 0
  · obtain ⟨d1, d2⟩ := hd (IntKind.i64.wrap (0 - m)) (by rw [wrap_i64 (by omega) (by omega)]; omega)
    rw [if_pos (by simpa using hn)]
    simp only [d1, d2, hD, hp, Option.bind_some]
    rw [nz_of (by decide), ck_true, catOk_of (by simp; omega), ck_true, catOk_of (by simp; omega), ck_true, catOk_of (by simp; omega), ck_true]
    unfold magT
    rw [if_pos hn]
  · obtain ⟨d1, d2⟩ := hd m (by omega)
    rw [if_neg (by simpa using hn)]
    simp only [d1, d2, hD, hp, Option.bind_some]
    rw [nz_of (by decide), ck_true, catOk_of (by simp; omega), ck_true, catOk_of (by simp; omega), ck_true, catOk_of (by simp; omega), ck_true]
    unfold magT
    rw [if_neg hn]

end Go.Proofs.YtbobhejdijcofaaGreatDoor

