/- What typed forms say: the names in a list, rising, each once: sorting. No condition. -/
import Derived.Test.YtikaacjlnkfebaaOSL
import Derived.Test.YtikaacjlnkfebaaHUtil
import Derived.Test.YtikaacjlnkfebaaEngSH
namespace Go.Proofs.Ytikaacjlnkfebaa
open Go Go.RowKit
set_option linter.unusedSimpArgs false
set_option linter.unusedVariables false

abbrev Bs := List UInt8

theorem bl_lt : ∀ a b : Bs, Op.bytesLess a b = decide (a < b)
  | [], [] => by simp [Op.bytesLess]
  | _ :: _, [] => by simp [Op.bytesLess]
  | [], _ :: _ => by simp [Op.bytesLess]
  | x :: a, y :: b => by
    simp only [Op.bytesLess, bl_lt a b, List.cons_lt_cons_iff]
    by_cases c1 : x < y <;> by_cases c2 : x = y <;> by_cases c3 : a < b <;> simp [c1, c2, c3]
theorem lt_irr (a : Bs) : ¬ a < a := List.lt_irrefl a
theorem lt_tr {a b c : Bs} (h1 : a < b) (h2 : b < c) : a < c := List.lt_trans h1 h2
theorem lt_tri (a b : Bs) : a < b ∨ a = b ∨ b < a := by
  by_cases h : a < b
  · exact .inl h
  · by_cases h2 : b < a
    · exact .inr (.inr h2)
    · exact .inr (.inl (List.le_antisymm (List.not_lt.1 h2) (List.not_lt.1 h)))

def Strict (l : List Bs) : Prop := l.Pairwise (· < ·)

theorem strict_unique : ∀ {l1 l2 : List Bs}, Strict l1 → Strict l2 → (∀ x, x ∈ l1 ↔ x ∈ l2) → l1 = l2
  | [], [], _, _, _ => rfl
  | [], b :: l2, _, _, h => absurd ((h b).2 (by simp)) (by simp)
  | a :: l1, [], _, _, h => absurd ((h a).1 (by simp)) (by simp)
  | a :: l1, b :: l2, h1, h2, h => by
    obtain ⟨p1, q1⟩ := List.pairwise_cons.1 h1
    obtain ⟨p2, q2⟩ := List.pairwise_cons.1 h2
    have hab : a = b := by
      rcases List.mem_cons.1 ((h a).1 (by simp)) with e | e
      · exact e
      · rcases List.mem_cons.1 ((h b).2 (by simp)) with e2 | e2
        · exact e2.symm
        · exact absurd (lt_tr (p1 b e2) (p2 a e)) (lt_irr a)
    subst hab
    congr 1
    refine strict_unique q1 q2 fun x => ⟨fun hx => ?_, fun hx => ?_⟩
    · rcases List.mem_cons.1 ((h x).1 (by simp [hx])) with e | e
      · subst e; exact absurd (p1 _ hx) (lt_irr _)
      · exact e
    · rcases List.mem_cons.1 ((h x).2 (by simp [hx])) with e | e
      · subst e; exact absurd (p2 _ hx) (lt_irr _)
      · exact e

/-! ### Sorted, and each once -/

theorem sortS_mem (l : List Bs) (x : Bs) : x ∈ sortS l ↔ x ∈ l := by unfold sortS; exact List.mem_mergeSort
theorem sortS_len (l : List Bs) : (sortS l).length = l.length := by unfold sortS; exact List.length_mergeSort _
theorem sortS_le (l : List Bs) : (sortS l).Pairwise (· ≤ ·) := by
  unfold sortS
  have := List.pairwise_mergeSort (le := fun x y : Bs => decide (x ≤ y)) (fun a b c h1 h2 => by
    simp only [decide_eq_true_eq] at h1 h2 ⊢; exact List.le_trans h1 h2) (fun a b => by
    rcases List.le_total a b with h | h <;> simp [h]) l
  exact this.imp fun h => by simpa using h

theorem compS_mem {l : List Bs} (x : Bs) : x ∈ compS l ↔ x ∈ l := by
  unfold compS Lib.compact Lib.compactUpTo
  simp only [List.mem_map, List.mem_filter, List.mem_range]
  have hget : ∀ i (h : i < l.length), l.toArray[i]! = l[i] := fun i h => by rw [getElem!_pos _ i (by simpa using h)]; simp
  constructor
  · rintro ⟨i, ⟨hi, _⟩, e⟩
    rw [hget i hi] at e
    rw [← e]; exact List.getElem_mem hi
  · intro hx
    obtain ⟨i, hi, rfl⟩ := List.getElem_of_mem hx
    clear hx
    induction i with
    | zero => exact ⟨0, ⟨hi, by simp [Lib.keeps]⟩, hget 0 hi⟩
    | succ i ih =>
      by_cases c : Lib.keeps l.toArray (i + 1) = true
      · exact ⟨i + 1, ⟨hi, c⟩, hget _ hi⟩
      · have : l[i + 1] = l[i] := by
          unfold Lib.keeps at c
          simp only [decide_eq_true_eq, not_or] at c
          have h2 := c.2
          rw [hget _ hi, show i + 1 - 1 = i by omega, hget i (by omega)] at h2
          exact Classical.byContradiction h2
        rw [this]
        exact ih (by omega)

theorem compS_strict {l : List Bs} (h : l.Pairwise (· ≤ ·)) : Strict (compS l) := by
  unfold Strict compS Lib.compact Lib.compactUpTo
  have hget : ∀ i (h : i < l.length), l.toArray[i]! = l[i] := fun i h => by rw [getElem!_pos _ i (by simpa using h)]; simp
  have hle : ∀ i j (hi : i < l.length) (hj : j < l.length), i ≤ j → l[i] ≤ l[j] := fun i j hi hj hij => by
    rcases Nat.lt_or_ge i j with c | c
    · exact List.pairwise_iff_getElem.1 h i j hi hj c
    · have : i = j := by omega
      subst this; exact List.le_refl _
  rw [List.pairwise_map]
  refine List.Pairwise.imp_of_mem (R := (· < ·)) (fun {a b} ha hb hab => ?_) (List.pairwise_lt_range.filter _)
  have hb1 := (List.mem_filter.1 hb)
  have hbl : b < l.length := by simpa using hb1.1
  have hk := hb1.2
  unfold Lib.keeps at hk
  simp only [decide_eq_true_eq] at hk
  rcases hk with e | e
  · omega
  · rw [hget _ hbl, hget (b - 1) (by omega)] at e
    rw [hget a (by omega), hget b hbl]
    have h1 := hle a (b - 1) (by omega) (by omega) (by omega)
    have h2 := hle (b - 1) b (by omega) hbl (by omega)
    rcases lt_tri l[b - 1] l[b] with q | q | q
    · rcases lt_tri l[a] l[b - 1] with r | r | r
      · exact lt_tr r q
      · rw [r]; exact q
      · exact absurd r (List.not_lt.2 h1)
    · exact absurd q.symm e
    · exact absurd q (List.not_lt.2 h2)

end Go.Proofs.Ytikaacjlnkfebaa
