/- What typed forms say: the names in a list, rising, each once. No condition. -/
import Derived.Test.YtgbopjgnggdhkaaR9L
import Derived.Test.YtgbopjgnggdhkaaHUtil
import Derived.Test.YtgbopjgnggdhkaaEngSH
namespace Go.Proofs.Ytgbopjgnggdhkaa
open Go Go.RowKit
set_option linter.unusedSimpArgs false
set_option linter.unusedVariables false

abbrev Bs := List UInt8

theorem bl_lt : ∀ a b : Bs, Op.bytesLess a b = decide (a < b)
  | [], [] => by simp [Op.bytesLess]
  | _ :: _, [] => by simp [Op.bytesLess]
  | [], _ :: _ => by simp [Op.bytesLess]
  | x :: a, y :: b => by
    simp only [Op.bytesLess, bl_lt a b, List.cons_lt_cons_iff]
    by_cases c1 : x < y <;> by_cases c2 : x = y <;> by_cases c3 : a < b <;> simp [c1, c2, c3]
theorem lt_irr (a : Bs) : ¬ a < a := List.lt_irrefl a
theorem lt_tr {a b c : Bs} (h1 : a < b) (h2 : b < c) : a < c := List.lt_trans h1 h2
theorem lt_tri (a b : Bs) : a < b ∨ a = b ∨ b < a := by
  by_cases h : a < b
  · exact .inl h
  · by_cases h2 : b < a
    · exact .inr (.inr h2)
    · exact .inr (.inl (List.le_antisymm (List.not_lt.1 h2) (List.not_lt.1 h)))

def Strict (l : List Bs) : Prop := l.Pairwise (· < ·)

theorem strict_unique : ∀ {l1 l2 : List Bs}, Strict l1 → Strict l2 → (∀ x, x ∈ l1 ↔ x ∈ l2) → l1 = l2
  | [], [], _, _, _ => rfl
  | [], b :: l2, _, _, h => absurd ((h b).2 (by simp)) (by simp)
  | a :: l1, [], _, _, h => absurd ((h a).1 (by simp)) (by simp)
  | a :: l1, b :: l2, h1, h2, h => by
    obtain ⟨p1, q1⟩ := List.pairwise_cons.1 h1
    obtain ⟨p2, q2⟩ := List.pairwise_cons.1 h2
    have hab : a = b := by
      rcases List.mem_cons.1 ((h a).1 (by simp)) with e | e
      · exact e
      · rcases List.mem_cons.1 ((h b).2 (by simp)) with e2 | e2
        · exact e2.symm
        · exact absurd (lt_tr (p1 b e2) (p2 a e)) (lt_irr a)
    subst hab
    congr 1
    refine strict_unique q1 q2 fun x => ⟨fun hx => ?_, fun hx => ?_⟩
    · rcases List.mem_cons.1 ((h x).1 (by simp [hx])) with e | e
      · subst e; exact absurd (p1 _ hx) (lt_irr _)
      · exact e
    · rcases List.mem_cons.1 ((h x).2 (by simp [hx])) with e | e
      · subst e; exact absurd (p2 _ hx) (lt_irr _)
      · exact e

/-! ### Sorted, and each once -/

theorem sortS_mem (l : List Bs) (x : Bs) : x ∈ sortS l ↔ x ∈ l := by unfold sortS; exact List.mem_mergeSort
theorem sortS_len (l : List Bs) : (sortS l).length = l.length := by unfold sortS; exact List.length_mergeSort _
theorem sortS_le (l : List Bs) : (sortS l).Pairwise (· ≤ ·) := by
  unfold sortS
  have := List.pairwise_mergeSort (le := fun x y : Bs => decide (x ≤ y)) (fun a b c h1 h2 => by
    simp only [decide_eq_true_eq] at h1 h2 ⊢; exact List.le_trans h1 h2) (fun a b => by
    rcases List.le_total a b with h | h <;> simp [h]) l
  exact this.imp fun h => by simpa using h

theorem compS_mem {l : List Bs} (x : Bs) : x ∈ compS l ↔ x ∈ l := by
  unfold compS Lib.compact Lib.compactUpTo
  simp only [List.mem_map, List.mem_filter, List.mem_range]
  have hget : ∀ i (h : i < l.length), l.toArray[i]! = l[i] := fun i h => by rw [getElem!_pos _ i (by simpa using h)]; simp
  constructor
  · rintro ⟨i, ⟨hi, _⟩, e⟩
    rw [hget i hi] at e
    rw [← e]; exact List.getElem_mem hi
  · intro hx
    obtain ⟨i, hi, rfl⟩ := List.getElem_of_mem hx
    clear hx
    induction i with
    | zero => exact ⟨0, ⟨hi, by simp [Lib.keeps]⟩, hget 0 hi⟩
    | succ i ih =>
      by_cases c : Lib.keeps l.toArray (i + 1) = true
      · exact ⟨i + 1, ⟨hi, c⟩, hget _ hi⟩
      · have : l[i + 1] = l[i] := by
          unfold Lib.keeps at c
          simp only [decide_eq_true_eq, not_or] at c
          have h2 := c.2
          rw [hget _ hi, show i + 1 - 1 = i by omega, hget i (by omega)] at h2
          exact Classical.byContradiction h2
        rw [this]
        exact ih (by omega)

theorem compS_strict {l : List Bs} (h : l.Pairwise (· ≤ ·)) : Strict (compS l) := by
  unfold Strict compS Lib.compact Lib.compactUpTo
  have hget : ∀ i (h : i < l.length), l.toArray[i]! = l[i] := fun i h => by rw [getElem!_pos _ i (by simpa using h)]; simp
  have hle : ∀ i j (hi : i < l.length) (hj : j < l.length), i ≤ j → l[i] ≤ l[j] := fun i j hi hj hij => by
    rcases Nat.lt_or_ge i j with c | c
    · exact List.pairwise_iff_getElem.1 h i j hi hj c
    · have : i = j := by omega
      subst this; exact List.le_refl _
  rw [List.pairwise_map]
  refine List.Pairwise.imp_of_mem (R := (· < ·)) (fun {a b} ha hb hab => ?_) (List.pairwise_lt_range.filter _)
  have hb1 := (List.mem_filter.1 hb)
  have hbl : b < l.length := by simpa using hb1.1
  have hk := hb1.2
  unfold Lib.keeps at hk
  simp only [decide_eq_true_eq] at hk
  rcases hk with e | e
  · omega
  · rw [hget _ hbl, hget (b - 1) (by omega)] at e
    rw [hget a (by omega), hget b hbl]
    have h1 := hle a (b - 1) (by omega) (by omega) (by omega)
    have h2 := hle (b - 1) b (by omega) hbl (by omega)
    rcases lt_tri l[b - 1] l[b] with q | q | q
    · rcases lt_tri l[a] l[b - 1] with r | r | r
      · exact lt_tr r q
      · rw [r]; exact q
      · exact absurd r (List.not_lt.2 h1)
    · exact absurd q.symm e
    · exact absurd q (List.not_lt.2 h2)

/-! ### A name is put to its place -/

theorem putName_loop {l : List Bs} (hl : l.length ≤ 100000) (n : Bs) : ∀ k : Nat, k ≤ l.length → (∀ j (hj : j < l.length), k ≤ j → n < l[j]) →
    ∃ k' : Nat, k' ≤ l.length ∧ whileE (spec_l06PutName_l1 l n) (k : Int) = some (k' : Int) ∧ (∀ j (hj : j < l.length), k' ≤ j → n < l[j]) ∧ (∀ (h : 0 < k') (h2 : k' - 1 < l.length), ¬ n < l[k' - 1])
  | 0, hk, hb => ⟨0, hk, whileE_done (by simp [spec_l06PutName_l1, ck_true]), hb, fun h => by omega⟩
  | k + 1, hk, hb => by
    have e0 : decide ((0 : Int) < ((k + 1 : Nat) : Int)) = true := decide_eq_true (by omega)
    have w1 : IntKind.i64.wrap (((k + 1 : Nat) : Int) - 1) = (k : Int) := by rw [wrap_i64 (by omega) (by omega)]; omega
    have ok1 : ixOk (k : Int) l.length = true := by rw [ixOk_nat]; simp; omega
    have hkl : k < l.length := by omega
    have hcond : (!(Op.bytesLess (l.getD k default) n || (l.getD k default) == n)) = decide (n < l[k]) := by
      rw [getD_lt hkl, bl_lt]
      rcases lt_tri n l[k] with h | h | h
      · have h1 : ¬ l[k] < n := fun c => lt_irr _ (lt_tr h c)
        have h2 : l[k] ≠ n := fun c => by rw [c] at h; exact lt_irr _ h
        simp [h, h1, h2]
      · have h1 : ¬ n < l[k] := fun c => by rw [← h] at c; exact lt_irr _ c
        simp [← h, lt_irr]
      · have h1 : ¬ n < l[k] := fun c => lt_irr _ (lt_tr h c)
        simp [h, h1]
    by_cases hbe : n < l[k]
    · rw [whileE_next (s' := (k : Int)) (by
        simp only [spec_l06PutName_l1, e0, w1, ok1, Int.toNat_natCast, hcond, hbe, decide_true, Bool.not_true, Bool.false_or, ck_true, Bool.and_self, if_true])]
      refine putName_loop hl n k (by omega) fun j hj hkj => ?_
      rcases Nat.lt_or_ge k j with c | c
      · exact hb j hj (by omega)
      · have : j = k := by omega
        subst this; exact hbe
    · refine ⟨k + 1, hk, whileE_done ?_, hb, fun _ _ => by simpa using hbe⟩
      simp only [spec_l06PutName_l1, e0, w1, ok1, Int.toNat_natCast, hcond, hbe, decide_false, Bool.not_true, Bool.false_or, ck_true, Bool.and_false, Bool.false_eq_true, if_false]

theorem putName_is {l : List Bs} (hl : l.length ≤ 100000) (hs : Strict l) (n : Bs) : ∃ l', spec_l06PutName l n = some l' ∧ Strict l' ∧ l'.length ≤ l.length + 1 ∧ ∀ x, x ∈ l' ↔ x = n ∨ x ∈ l := by
  obtain ⟨k, hk, hw, h1, h2⟩ := putName_loop hl n l.length (Nat.le_refl _) (fun j hj h => by omega)
  unfold spec_l06PutName
  rw [hw]
  simp only [Option.bind_some]
  have hlt : ∀ j (hj : j < l.length), j < k → ∀ (hk2 : k - 1 < l.length), l[j] < l[k - 1] ∨ j = k - 1 := fun j hj hjk hk2 => by
    rcases Nat.lt_or_ge j (k - 1) with c | c
    · exact .inl (List.pairwise_iff_getElem.1 hs j (k - 1) hj hk2 c)
    · exact .inr (by omega)
  by_cases h0 : 0 < k
  · have e0 : decide ((0 : Int) < (k : Int)) = true := decide_eq_true (by omega)
    have w1 : IntKind.i64.wrap ((k : Int) - 1) = ((k - 1 : Nat) : Int) := by rw [wrap_i64 (by omega) (by omega)]; omega
    have hk2 : k - 1 < l.length := by omega
    have ok1 : ixOk ((k - 1 : Nat) : Int) l.length = true := by rw [ixOk_nat]; simp; omega
    simp only [e0, w1, ok1, Int.toNat_natCast, Bool.not_true, Bool.false_or, ck_true, Bool.true_and, getD_lt hk2]
    by_cases he : l[k - 1] = n
    · have : (l[k - 1] == n) = true := by simpa using he
      rw [if_pos this]
      exact ⟨l, rfl, hs, by omega, fun x => ⟨.inr, fun h => h.elim (fun e => by rw [e, ← he]; exact List.getElem_mem hk2) id⟩⟩
    · have : ¬ (l[k - 1] == n) = true := by simpa using he
      rw [if_neg this, cutOk_of (by omega) (by omega) (by omega), ck_true, appOk_of (by simp [cut]; omega), ck_true, appOk_of (by simp [cut]; omega), ck_true, cutOk_of (by omega) (by omega) (by omega), ck_true, appOk_of (by simp [cut]; omega), ck_true]
      have hn : l[k - 1] < n := by
        rcases lt_tri l[k - 1] n with c | c | c
        · exact c
        · exact absurd c he
        · exact absurd c (h2 h0 hk2)
      refine ⟨_, rfl, ?_, by simp [cut]; omega, fun x => ?_⟩
      · unfold Strict
        simp only [cut, Int.toNat_natCast, List.take_length, List.nil_append]
        rw [show ((0 : Int).toNat) = 0 from rfl, List.drop_zero, List.append_assoc]
        refine List.pairwise_append.2 ⟨hs.sublist (List.take_sublist _ _), ?_, fun a ha b hb => ?_⟩
        · refine List.pairwise_append.2 ⟨List.pairwise_singleton _ _, hs.sublist (List.drop_sublist _ _), fun a ha b hb => ?_⟩
          simp only [List.mem_singleton] at ha
          subst ha
          obtain ⟨i, hi, rfl⟩ := List.getElem_of_mem hb
          rw [List.getElem_drop]
          exact h1 _ _ (by omega)
        · obtain ⟨i, hi, rfl⟩ := List.getElem_of_mem ha
          have hi' : i < k := by simp at hi; omega
          rw [List.getElem_take]
          have han : l[i] < n := by
            rcases hlt i (by omega) hi' hk2 with c | c
            · exact lt_tr c hn
            · simp only [c]; exact hn
          rcases List.mem_append.1 hb with hb | hb
          · simp only [List.mem_singleton] at hb; rw [hb]; exact han
          · obtain ⟨j, hj, rfl⟩ := List.getElem_of_mem hb
            rw [List.getElem_drop]
            exact lt_tr han (h1 _ _ (by omega))
      · simp only [cut, Int.toNat_natCast, List.take_length, List.nil_append, List.mem_append, List.mem_singleton]
        rw [show ((0 : Int).toNat) = 0 from rfl, List.drop_zero]
        have hsplit : x ∈ l ↔ x ∈ l.take k ∨ x ∈ l.drop k := by rw [← List.mem_append, List.take_append_drop]
        rw [hsplit]
        constructor
        · rintro ((h | h) | h)
          · exact .inr (.inl h)
          · exact .inl h
          · exact .inr (.inr h)
        · rintro (h | h | h)
          · exact .inl (.inr h)
          · exact .inl (.inl h)
          · exact .inr h
  · obtain rfl : k = 0 := by omega
    have e0 : decide ((0 : Int) < ((0 : Nat) : Int)) = false := rfl
    simp only [e0, Bool.not_false, Bool.true_or, ck_true, Bool.false_and, Bool.false_eq_true, if_false]
    rw [cutOk_of (by omega) (by omega) (by omega), ck_true, appOk_of (by simp [cut]), ck_true, appOk_of (by simp [cut]), ck_true, cutOk_of (by omega) (by omega) (by omega), ck_true, appOk_of (by simp [cut]; omega), ck_true]
    refine ⟨_, rfl, ?_, by simp [cut], fun x => ?_⟩
    · unfold Strict
      simp only [cut]
      simp only [Int.toNat_natCast, List.take_length, List.take_zero, List.drop_nil, List.nil_append, List.drop_zero]
      refine List.pairwise_append.2 ⟨List.pairwise_singleton _ _, hs, fun a ha b hb => ?_⟩
      simp only [List.mem_singleton] at ha
      subst ha
      obtain ⟨i, hi, rfl⟩ := List.getElem_of_mem hb
      exact h1 i hi (by omega)
    · simp [cut]

end Go.Proofs.Ytgbopjgnggdhkaa
