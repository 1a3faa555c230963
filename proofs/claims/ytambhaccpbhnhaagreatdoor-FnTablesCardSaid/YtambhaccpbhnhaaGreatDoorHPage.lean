/- What typed forms say: pages of lines. No condition. -/
import Derived.Test.YtambhaccpbhnhaaGreatDoorHTab
namespace Go.Proofs.YtambhaccpbhnhaaGreatDoor
open Go Go.RowKit
set_option linter.unusedSimpArgs false
set_option linter.unusedVariables false

def pagesN (n e : Nat) : Nat := (n + e - 1) / e

theorem pagesN_ceil {n e : Nat} (he : 0 < e) : pagesN n e = n / e + (if 0 < n % e then 1 else 0) := by
  unfold pagesN
  have h := Nat.div_add_mod n e
  have hm := Nat.mod_lt n he
  have e1 : n + e - 1 = (n % e + e - 1) + e * (n / e) := by omega
  rw [e1, Nat.add_mul_div_left _ _ he]
  split
  · rename_i h0
    have : (n % e + e - 1) / e = 1 := Nat.div_eq_of_lt_le (by omega) (by omega)
    omega
  · have : (n % e + e - 1) / e = 0 := Nat.div_eq_of_lt (by omega)
    omega

theorem pagesN_lt {n e k : Nat} (he : 0 < e) (hk : k < pagesN n e) : k * e < n := by
  have := (Nat.le_div_iff_mul_le he).1 (show k + 1 ≤ (n + e - 1) / e from hk)
  rw [Nat.succ_mul] at this
  omega

theorem pagesN_ge {n e : Nat} (he : 0 < e) : n ≤ pagesN n e * e := by
  have h := Nat.div_add_mod (n + e - 1) e
  have hm := Nat.mod_lt (n + e - 1) he
  unfold pagesN
  rw [Nat.mul_comm]
  omega

theorem pagesN_le {n e : Nat} (he : 0 < e) : pagesN n e ≤ n := by
  refine Classical.byContradiction fun hc => ?_
  have h1 := pagesN_lt (n := n) (k := n) he (by omega)
  have := Nat.le_mul_of_pos_right n he
  omega

section
variable {lines : List (List UInt8)}

theorem ceil_is {n e : Nat} (hn : n ≤ 1000000) (he : 0 < e) (h60 : e ≤ 60) : impl_ceilDiv (n : Int) (e : Int) = some ((pagesN n e : Nat) : Int) := by
  unfold impl_ceilDiv impl_floorDiv
  have hle := pagesN_le (n := n) he
  have e1 : IntKind.i64.wrap (0 - (n : Int)) = -(n : Int) := by rw [wrap_i64 (by omega) (by omega)]; omega
  have hz : nz (e : Int) = true := by unfold nz; simp; omega
  have e2 : (-(n : Int)).tmod (e : Int) = -((n % e : Nat) : Int) := by rw [Int.neg_tmod]; rfl
  have e3 : (-(n : Int)).tdiv (e : Int) = -((n / e : Nat) : Int) := by rw [Int.neg_tdiv]; rfl
  have hd := Nat.div_le_self n e
  have hm := Nat.mod_le n e
  have e0 := pagesN_ceil (n := n) he
  rw [e1, hz, ck_true, e2, e3]
  generalize n / e = d at hd e0 ⊢
  generalize n % e = m at hm e0 ⊢
  generalize pagesN n e = p at e0 hle ⊢
  subst e0
  have e4 : IntKind.i64.wrap (-(d : Int)) = -(d : Int) := wrap_i64 (by omega) (by omega)
  rw [e4]
  by_cases h0 : 0 < m
  · rw [if_pos (decide_eq_true (show -(m : Int) < 0 by omega)), if_pos h0]
    rw [wrap_i64 (by omega) (by omega), Option.bind_some, wrap_i64 (by omega) (by omega)]
    congr 1
    omega
  · have : decide (-(m : Int) < 0) = false := decide_eq_false (by omega)
    rw [this, if_neg Bool.false_ne_true, if_neg h0]
    rw [Option.bind_some, wrap_i64 (by omega) (by omega)]
    congr 1
    omega

theorem in_is (n a b : Int) : impl_in n a b = some (decide (a ≤ n) && decide (n ≤ b)) ∧ spec_l00In n a b = some (decide (a ≤ n) && decide (n ≤ b)) := by
  unfold impl_in spec_l00In
  exact ⟨rfl, rfl⟩

theorem Pages_impl (hn : lines.length ≤ 1000000) (each : Int) : impl_PagesOf lines each = some (if (decide (1 ≤ each) && decide (each ≤ 60)) = true then (((pagesN lines.length each.toNat : Nat) : Int), 0) else (0, 2)) := by
  unfold impl_PagesOf impl_count_string
  rw [(in_is _ _ _).1, Option.bind_some]
  cases hb : (decide (1 ≤ each) && decide (each ≤ 60))
  · rfl
  · simp only [Bool.and_eq_true, decide_eq_true_eq] at hb
    obtain ⟨e, rfl⟩ : ∃ e : Nat, each = (e : Int) := ⟨each.toNat, by omega⟩
    simp only [Bool.not_true, Bool.false_eq_true, if_false, if_true, Option.bind_some, ceil_is hn (show 0 < e by omega) (by omega), Int.toNat_natCast]

theorem l24Pages_is {e : Nat} (hn : lines.length ≤ 1000000) (he : 0 < e) (h60 : e ≤ 60) : spec_l24Pages lines (e : Int) = some ((pagesN lines.length e : Nat) : Int) := by
  unfold spec_l24Pages
  have hz : nz (e : Int) = true := by unfold nz; simp; omega
  have hle := pagesN_le (n := lines.length) he
  have e1 : IntKind.i64.wrap ((lines.length : Int) + (e : Int)) = ((lines.length + e : Nat) : Int) := by rw [wrap_i64 (by omega) (by omega)]; omega
  have e2 : IntKind.i64.wrap (((lines.length + e : Nat) : Int) - 1) = ((lines.length + e - 1 : Nat) : Int) := by rw [wrap_i64 (by omega) (by omega)]; omega
  have e3 : ((lines.length + e - 1 : Nat) : Int).tdiv (e : Int) = ((pagesN lines.length e : Nat) : Int) := rfl
  rw [hz, ck_true, e1, e2, e3, wrap_i64 (by omega) (by omega)]

theorem Pages_spec (hn : lines.length ≤ 1000000) (each : Int) : spec_PagesOf lines each = some (if (decide (1 ≤ each) && decide (each ≤ 60)) = true then (((pagesN lines.length each.toNat : Nat) : Int), 0) else (0, 2)) := by
  unfold spec_PagesOf
  rw [(in_is _ _ _).2, Option.bind_some]
  cases hb : (decide (1 ≤ each) && decide (each ≤ 60))
  · rfl
  · simp only [Bool.and_eq_true, decide_eq_true_eq] at hb
    obtain ⟨e, rfl⟩ : ∃ e : Nat, each = (e : Int) := ⟨each.toNat, by omega⟩
    simp only [Bool.not_true, Bool.false_eq_true, if_false, if_true, Option.bind_some, l24Pages_is hn (show 0 < e by omega) (by omega), Int.toNat_natCast]

def pageT (lines : List (List UInt8)) (e k : Nat) : List (List UInt8) := cut lines ((k * e : Nat) : Int) ((min ((k + 1) * e) lines.length : Nat) : Int)

def pageR (lines : List (List UInt8)) (each page : Int) : List (List UInt8) × Int :=
  if (decide (1 ≤ each) && decide (each ≤ 60)) = true then
    (if (decide (0 ≤ page) && decide (page ≤ ((pagesN lines.length each.toNat : Nat) : Int) - 1)) = true then (pageT lines each.toNat page.toNat, 0) else ([], 3))
  else ([], 2)

theorem page_facts {n e k : Nat} (hn : n ≤ 1000000) (he : 0 < e) (h60 : e ≤ 60) (hk : k < pagesN n e) :
    IntKind.i64.wrap ((k : Int) * (e : Int)) = ((k * e : Nat) : Int) ∧ IntKind.i64.wrap ((k : Int) + 1) = ((k + 1 : Nat) : Int) ∧ IntKind.i64.wrap (((k + 1 : Nat) : Int) * (e : Int)) = (((k + 1) * e : Nat) : Int) ∧ IntKind.i64.wrap (((k * e : Nat) : Int) + (e : Int)) = (((k + 1) * e : Nat) : Int) ∧ k * e < n ∧ (k + 1) * e = k * e + e := by
  have h1 := pagesN_lt he hk
  have h2 := pagesN_le (n := n) he
  have h3 : (k + 1) * e = k * e + e := Nat.succ_mul k e
  have c1 : (k : Int) * (e : Int) = ((k * e : Nat) : Int) := by simp
  have c2 : ((k + 1 : Nat) : Int) * (e : Int) = (((k + 1) * e : Nat) : Int) := by simp
  refine ⟨?_, ?_, ?_, ?_, h1, h3⟩
  · rw [c1]; exact wrap_i64 (by omega) (by omega)
  · rw [wrap_i64 (by omega) (by omega)]; omega
  · rw [c2]; exact wrap_i64 (by omega) (by omega)
  · rw [wrap_i64 (by omega) (by omega)]; omega

theorem Page_impl (hn : lines.length ≤ 1000000) (each page : Int) : impl_PageOf lines each page = some (pageR lines each page) := by
  unfold impl_PageOf pageR
  rw [Pages_impl hn, Option.bind_some]
  cases hb : (decide (1 ≤ each) && decide (each ≤ 60))
  · rfl
  · simp only [Bool.and_eq_true, decide_eq_true_eq] at hb
    obtain ⟨e, rfl⟩ : ∃ e : Nat, each = (e : Int) := ⟨each.toNat, by omega⟩
    have he : 0 < e := by omega
    have hle := pagesN_le (n := lines.length) he
    simp only [if_true, beq_self_eq_true, Bool.not_true, Bool.false_eq_true, if_false, Int.toNat_natCast]
    rw [wrap_i64 (show -9223372036854775808 ≤ ((pagesN lines.length e : Nat) : Int) - 1 by omega) (by omega), (in_is _ _ _).1, Option.bind_some]
    cases hp : (decide (0 ≤ page) && decide (page ≤ ((pagesN lines.length e : Nat) : Int) - 1))
    · rfl
    · simp only [Bool.and_eq_true, decide_eq_true_eq] at hp
      obtain ⟨k, rfl⟩ : ∃ k : Nat, page = (k : Int) := ⟨page.toNat, by omega⟩
      obtain ⟨w1, w2, w3, w4, hlt, hs⟩ := page_facts hn he (by omega) (show k < pagesN lines.length e by omega)
      simp only [Bool.not_true, Bool.false_eq_true, if_false, if_true, impl_count_string, Option.bind_some, w1, w2, w3, Int.toNat_natCast]
      have e4 : (if (lines.length : Int) < (((k + 1) * e : Nat) : Int) then (lines.length : Int) else (((k + 1) * e : Nat) : Int)) = ((min ((k + 1) * e) lines.length : Nat) : Int) := by
        split <;> omega
      rw [e4, cutOk_of (by omega) (by omega) (by omega), ck_true]
      unfold impl_copyOf_string
      rw [appOk_of (by simp [cut]; omega), ck_true]
      rfl

theorem Page_spec (hn : lines.length ≤ 1000000) (each page : Int) : spec_PageOf lines each page = some (pageR lines each page) := by
  unfold spec_PageOf pageR
  rw [(in_is _ _ _).2, Option.bind_some]
  cases hb : (decide (1 ≤ each) && decide (each ≤ 60))
  · rfl
  · simp only [Bool.and_eq_true, decide_eq_true_eq] at hb
    obtain ⟨e, rfl⟩ : ∃ e : Nat, each = (e : Int) := ⟨each.toNat, by omega⟩
    have he : 0 < e := by omega
    have hle := pagesN_le (n := lines.length) he
    simp only [if_true, Bool.not_true, Bool.false_eq_true, if_false, Int.toNat_natCast, l24Pages_is hn he (by omega), Option.bind_some]
    rw [wrap_i64 (show -9223372036854775808 ≤ ((pagesN lines.length e : Nat) : Int) - 1 by omega) (by omega), (in_is _ _ _).2, Option.bind_some]
    cases hp : (decide (0 ≤ page) && decide (page ≤ ((pagesN lines.length e : Nat) : Int) - 1))
    · rfl
    · simp only [Bool.and_eq_true, decide_eq_true_eq] at hp
      obtain ⟨k, rfl⟩ : ∃ k : Nat, page = (k : Int) := ⟨page.toNat, by omega⟩
      obtain ⟨w1, w2, w3, w4, hlt, hs⟩ := page_facts hn he (by omega) (show k < pagesN lines.length e by omega)
      simp only [Bool.not_true, Bool.false_eq_true, if_false, if_true, w1, w4, Int.toNat_natCast]
      have e4 : spec_l00Min (((k + 1) * e : Nat) : Int) (lines.length : Int) = some ((min ((k + 1) * e) lines.length : Nat) : Int) := by
        unfold spec_l00Min
        by_cases c : (((k + 1) * e : Nat) : Int) < (lines.length : Int)
        · rw [if_pos (decide_eq_true c)]; congr 1; omega
        · rw [decide_eq_false c, if_neg Bool.false_ne_true]; congr 1; omega
      rw [e4, Option.bind_some, cutOk_of (by omega) (by omega) (by omega), ck_true, appOk_of (by simp [cut]; omega), ck_true]
      rfl

theorem pageT_len {e k : Nat} (hlt : k * e < lines.length) (he : 0 < e) : (pageT lines e k).length = min ((k + 1) * e) lines.length - k * e := by
  have h3 : (k + 1) * e = k * e + e := Nat.succ_mul k e
  unfold pageT cut
  simp only [Int.toNat_natCast, List.length_drop, List.length_take]
  omega
end

end Go.Proofs.YtambhaccpbhnhaaGreatDoor
