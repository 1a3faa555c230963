/- What typed forms say: a star is put to its place. No condition. -/
import Derived.Test.YtfmhpfmibopkeaaDoorHStars
import Derived.Test.YtfmhpfmibopkeaaDoorHName
import Derived.Test.YtfmhpfmibopkeaaDoorHUtil
namespace Go.Proofs.YtfmhpfmibopkeaaDoor
open Go Go.RowKit
set_option linter.unusedSimpArgs false
set_option linter.unusedVariables false

theorem goodS_iff {l : List Star} : goodS l = true ↔ ∀ i, i < l.length → oneS (l.getD i default) = true ∧ (0 < i → Op.bytesLess (l.getD (i - 1) default).Name (l.getD i default).Name = true) := by
  unfold goodS okS
  simp only [List.all_eq_true, List.mem_range, Bool.and_eq_true, Bool.not_eq_true', Bool.and_eq_false_iff, decide_eq_false_iff_not, Bool.not_eq_false']
  constructor
  · intro h i hi
    obtain ⟨a, b⟩ := h i hi
    refine ⟨a, fun h0 => ?_⟩
    rcases b with b | b
    · exact absurd h0 b
    · exact b
  · intro h i hi
    obtain ⟨a, b⟩ := h i hi
    refine ⟨a, ?_⟩
    by_cases h0 : 0 < i
    · exact .inr (b h0)
    · exact .inl h0

def findS (l : List Star) (n : List UInt8) : Option Nat := (List.range l.length).find? fun i => (l.getD i default).Name == n

theorem findS_some {l : List Star} {n : List UInt8} {j : Nat} (h : findS l n = some j) : j < l.length ∧ (l.getD j default).Name = n ∧ ∀ i, i < j → (l.getD i default).Name ≠ n := by
  unfold findS at h
  rw [List.find?_range_eq_some] at h
  obtain ⟨h1, h2, h3⟩ := h
  exact ⟨by simpa using h2, by simpa using h1, fun i hi => by simpa using h3 i hi⟩

theorem findS_none {l : List Star} {n : List UInt8} (h : findS l n = none) : ∀ i, i < l.length → (l.getD i default).Name ≠ n := by
  unfold findS at h
  rw [List.find?_eq_none] at h
  intro i hi
  simpa using h i (by simpa using hi)

theorem findS_of {l : List Star} {n : List UInt8} {j : Nat} (h1 : j < l.length) (h2 : (l.getD j default).Name = n) (h3 : ∀ i, i < j → (l.getD i default).Name ≠ n) : findS l n = some j := by
  unfold findS
  rw [List.find?_range_eq_some]
  exact ⟨by simpa using h2, by simpa using h1, fun i hi => by simpa using h3 i hi⟩

theorem blV_lt : ∀ a b : List UInt8, Op.bytesLess a b = decide (a < b)
  | [], [] => by simp [Op.bytesLess]
  | _ :: _, [] => by simp [Op.bytesLess]
  | [], _ :: _ => by simp [Op.bytesLess]
  | x :: a, y :: b => by
    simp only [Op.bytesLess, blV_lt a b, List.cons_lt_cons_iff]
    by_cases c1 : x < y <;> by_cases c2 : x = y <;> by_cases c3 : a < b <;> simp [c1, c2, c3]

theorem ltV_irr (a : List UInt8) : ¬ a < a := List.lt_irrefl a

theorem ltV_tr {a b c : List UInt8} (h1 : a < b) (h2 : b < c) : a < c := List.lt_trans h1 h2

theorem ltV_tri (a b : List UInt8) : a < b ∨ a = b ∨ b < a := by
  by_cases h : a < b
  · exact .inl h
  · by_cases h2 : b < a
    · exact .inr (.inr h2)
    · exact .inr (.inl (List.le_antisymm (List.not_lt.1 h2) (List.not_lt.1 h)))

theorem next_lt {l : List Star} (hg : goodS l = true) {i : Nat} (h0 : 0 < i) (hi : i < l.length) : (l.getD (i - 1) default).Name < (l.getD i default).Name := by
  have := (goodS_iff.1 hg i hi).2 h0
  rw [blV_lt] at this
  exact of_decide_eq_true this

theorem up_lt {l : List Star} (hg : goodS l = true) : ∀ (d i : Nat), i + d + 1 < l.length → (l.getD i default).Name < (l.getD (i + d + 1) default).Name
  | 0, i, h => by have := next_lt hg (i := i + 1) (by omega) h; simpa using this
  | d + 1, i, h => by
    have h1 := up_lt hg d i (by omega)
    have h2 := next_lt hg (i := i + d + 1 + 1) (by omega) h
    rw [Nat.add_sub_cancel] at h2
    rw [show i + (d + 1) + 1 = i + d + 1 + 1 by omega]
    exact ltV_tr h1 h2

theorem up_lt' {l : List Star} (hg : goodS l = true) {i j : Nat} (hij : i < j) (hj : j < l.length) : (l.getD i default).Name < (l.getD j default).Name := by
  have := up_lt hg (j - i - 1) i (by omega)
  rw [show i + (j - i - 1) + 1 = j by omega] at this
  exact this

def placed (l : List Star) (n : List UInt8) (k : Nat) : Prop := k ≤ l.length ∧ (∀ i, i < k → (l.getD i default).Name < n) ∧ ∀ i, k ≤ i → i < l.length → n < (l.getD i default).Name

theorem insert_loop {l : List Star} (hl : l.length ≤ 1000000) (hg : goodS l = true) {x : Star} (hf : findS l x.Name = none) : ∃ k : Nat, whileE (impl_inserted_impl_Star__impl_starName_l1 l x) 0 = some (k : Int) ∧ placed l x.Name k := by
  have hne := findS_none hf
  obtain ⟨y, hy, k, rfl, hk⟩ := while_post (step := impl_inserted_impl_Star__impl_starName_l1 l x) (fun s => ∃ k : Nat, s = (k : Int) ∧ k ≤ l.length ∧ ∀ i, i < k → (l.getD i default).Name < x.Name) (fun r => ∃ k : Nat, r = (k : Int) ∧ placed l x.Name k) (fun s => l.length - s.toNat) (by
    rintro s ⟨k, rfl, h1, h2⟩
    by_cases c : k < l.length
    · have c' : (k : Int) < (l.length : Int) := by omega
      simp only [impl_inserted_impl_Star__impl_starName_l1, impl_starName, Option.isSome_some, Option.getD_some, Bool.or_true, ck_true, ixOk_nat, c, decide_true, c', Bool.true_and, Int.toNat_natCast, blV_lt]
      by_cases c2 : (l.getD k default).Name < x.Name
      · left
        rw [if_pos (by simpa using c2), wrap_nat1 (show k < 9223372036854775807 by omega)]
        exact ⟨_, rfl, ⟨k + 1, rfl, c, fun i hi => by
          by_cases e : i = k
          · subst e; exact c2
          · exact h2 i (by omega)⟩, by simp only [Int.toNat_natCast]; omega⟩
      · right
        rw [if_neg (by simpa using c2)]
        refine ⟨_, rfl, k, rfl, h1, h2, fun i hi1 hi2 => ?_⟩
        have hk : x.Name < (l.getD k default).Name := by
          rcases ltV_tri (l.getD k default).Name x.Name with h | h | h
          · exact absurd h c2
          · exact absurd h (hne k c)
          · exact h
        by_cases e : i = k
        · subst e; exact hk
        · exact ltV_tr hk (up_lt' hg (by omega) hi2)
    · right
      have c' : ¬ (k : Int) < (l.length : Int) := by omega
      simp only [impl_inserted_impl_Star__impl_starName_l1, impl_starName, Option.isSome_some, Option.getD_some, Bool.or_true, ck_true, c', decide_false, Bool.not_false, Bool.true_or, Bool.false_and, Bool.false_eq_true, if_false]
      exact ⟨_, rfl, k, rfl, h1, h2, fun i a b => by omega⟩) (s := (0 : Int)) ⟨0, rfl, Nat.zero_le _, fun i h => by omega⟩
  exact ⟨k, hy, hk⟩

def putS (l : List Star) (k : Nat) (x : Star) : List Star := l.take k ++ x :: l.drop k

theorem putS_len {l : List Star} {k : Nat} (hk : k ≤ l.length) (x : Star) : (putS l k x).length = l.length + 1 := by unfold putS; simp; omega

theorem putS_get {l : List Star} {k : Nat} (hk : k ≤ l.length) (x : Star) (i : Nat) : (putS l k x).getD i default = if i < k then l.getD i default else if i = k then x else l.getD (i - 1) default := by
  unfold putS
  have hl : (l.take k).length = k := by rw [List.length_take]; omega
  rw [List.getD_eq_getElem?_getD]
  by_cases c : i < k
  · rw [if_pos c, List.getElem?_append_left (by omega), List.getElem?_take, if_pos c, List.getD_eq_getElem?_getD]
  · rw [if_neg c, List.getElem?_append_right (by omega), hl]
    by_cases c2 : i = k
    · subst c2; simp
    · rw [if_neg c2, show i - k = (i - 1 - k) + 1 by omega, List.getElem?_cons_succ, List.getElem?_drop, show k + (i - 1 - k) = i - 1 by omega, List.getD_eq_getElem?_getD]

theorem putS_good {l : List Star} (hg : goodS l = true) {x : Star} (hx : oneS x = true) {k : Nat} (hp : placed l x.Name k) : goodS (putS l k x) = true := by
  obtain ⟨h1, h2, h3⟩ := hp
  refine goodS_iff.2 fun i hi => ?_
  rw [putS_len h1] at hi
  rw [putS_get h1, putS_get h1]
  refine ⟨?_, fun h0 => ?_⟩
  · split
    · exact (goodS_iff.1 hg i (by omega)).1
    · split
      · exact hx
      · exact (goodS_iff.1 hg (i - 1) (by omega)).1
  · rw [blV_lt, decide_eq_true_eq]
    by_cases c1 : i < k
    · rw [if_pos (by omega), if_pos c1]
      exact next_lt hg h0 (by omega)
    · rw [if_neg c1]
      by_cases c2 : i = k
      · subst c2
        rw [if_pos (by omega), if_pos rfl]
        exact h2 _ (by omega)
      · rw [if_neg c2]
        by_cases c3 : i - 1 = k
        · rw [if_neg (by omega), if_pos c3]
          exact h3 _ (by omega) (by omega)
        · rw [if_neg (by omega), if_neg c3]
          exact next_lt hg (by omega) (by omega)

theorem l04One_is (x : Star) : spec_l04One x = some (oneS x) := by
  unfold spec_l04One oneS
  simp only [spec_l04Ascend, spec_l04Decl, spec_l02Mag, spec_l00In_is, spec_IsName_is, Option.bind_some, Option.isSome_some, Option.getD_some, Bool.or_true, ck_true]
  congr 1
  rw [Bool.eq_iff_iff]
  simp only [Bool.and_eq_true]
  constructor
  · rintro ⟨⟨⟨⟨⟨a, b⟩, c⟩, d⟩, e⟩, g⟩; exact ⟨⟨⟨⟨a, b, c⟩, d⟩, e⟩, g⟩
  · rintro ⟨⟨⟨⟨a, b, c⟩, d⟩, e⟩, g⟩; exact ⟨⟨⟨⟨⟨a, b⟩, c⟩, d⟩, e⟩, g⟩

theorem l04_step {l : List Star} (hl : l.length ≤ 1099511627776) {i : Nat} (hi : i < l.length) : spec_l04Ok_l1 l (i : Int) = some (if okS l i = true then .inl ((i + 1 : Nat) : Int) else .inr (.inr false)) := by
  simp only [spec_l04Ok_l1, ixOk_nat, hi, decide_true, ck_true, Int.ofNat_lt, if_true, Int.toNat_natCast, wrap_nat1 (show i < 9223372036854775807 by omega), l04One_is, Option.bind_some, Option.isSome_some, Option.getD_some, Bool.or_true]
  unfold okS
  by_cases h0 : 0 < i
  · have e0 : decide ((0 : Int) < (i : Int)) = true := by simpa using h0
    have e1 : decide (0 < i) = true := by simpa using h0
    have w1 : IntKind.i64.wrap ((i : Int) - 1) = ((i - 1 : Nat) : Int) := by rw [wrap_i64 (by omega) (by omega)]; omega
    have ok1 : ixOk ((i - 1 : Nat) : Int) l.length = true := by rw [ixOk_nat]; simp; omega
    simp only [e0, e1, w1, ok1, Bool.or_true, ck_true, Bool.true_and, Int.toNat_natCast]
    generalize oneS (l.getD i default) = A
    generalize Op.bytesLess (l.getD (i - 1) default).Name (l.getD i default).Name = B
    cases A <;> cases B <;> rfl
  · have e0 : decide ((0 : Int) < (i : Int)) = false := by simpa using h0
    have e1 : decide (0 < i) = false := by simpa using h0
    simp only [e0, e1, Bool.false_and, Bool.and_false, Bool.not_false, Bool.true_or, ck_true, Bool.or_false, Bool.and_true]
    generalize oneS (l.getD i default) = A
    cases A <;> rfl

theorem l04Ok_is {l : List Star} (hl : l.length ≤ 1099511627776) : spec_l04Ok l = some (goodS l && decide (l.length ≤ 60)) := by
  unfold spec_l04Ok
  rw [while_all (step := spec_l04Ok_l1 l) (okS l) l.length (goodS l) (yes := .inl ()) (no := .inr false) (by unfold goodS; simp) (fun i hi => l04_step hl hi) (by simp [spec_l04Ok_l1])]
  have e : decide ((l.length : Int) ≤ 60) = decide (l.length ≤ 60) := by rw [Bool.eq_iff_iff]; simp; omega
  simp only [Option.bind_some, ite_b]
  cases goodS l <;> simp [e]

def hasS (l : List Star) (x : List UInt8) : Bool := l.any fun s => s.Name == x

theorem hasStar_is {l : List Star} (hl : l.length ≤ 1099511627776) (x : List UInt8) : impl_hasStar l x = some (hasS l x) := by
  unfold impl_hasStar slices_ContainsFunc_impl_Star_impl_Star__impl_hasStar_c1 slices_IndexFunc_impl_Star_impl_Star__impl_hasStar_c1 hasS
  rw [while_find (step := slices_IndexFunc_impl_Star_impl_Star__impl_hasStar_c1_l1 l x (l.length : Int)) (fun k => (l.getD k default).Name == x) (fun k => (k : Int)) l.length
    (fun k hk => by
      simp only [slices_IndexFunc_impl_Star_impl_Star__impl_hasStar_c1_l1, impl_hasStar_c1, ixOk_nat, hk, decide_true, ck_true, Int.ofNat_lt, if_true, Int.toNat_natCast, wrap_nat1 (show k < 9223372036854775807 by omega), Option.bind_some]
      cases ((l.getD k default).Name == x) <;> rfl)
    (by simp [slices_IndexFunc_impl_Star_impl_Star__impl_hasStar_c1_l1]), ← find_any l (fun s => s.Name == x)]
  cases (List.range l.length).find? (fun k => (l.getD k default).Name == x) with
  | none => rfl
  | some j => simp

end Go.Proofs.YtfmhpfmibopkeaaDoor
