/- What typed forms say: volumes, which are valid. No condition. -/
import Derived.Test.YtikaacjlnkfebaaHName
import Derived.Test.YtikaacjlnkfebaaHUtil
namespace Go.Proofs.Ytikaacjlnkfebaa
open Go Go.RowKit
set_option linter.unusedSimpArgs false
set_option linter.unusedVariables false

def oneV (x : Volume) : Bool := (((nameB x.Name && (decide (0 ≤ x.From) && decide (x.From ≤ 10000000))) && (decide (x.From ≤ x.To) && decide (x.To ≤ 10000000))) && (decide (1 ≤ x.Count) && decide (x.Count ≤ 1000000))) && (decide (0 ≤ x.Copies) && decide (x.Copies ≤ 5))

theorem l23One_is (x : Volume) : spec_l23One x = some (oneV x) := by
  unfold spec_l23One oneV
  simp only [spec_l03Time, spec_l00In_is, spec_IsName_is, Option.bind_some, Option.isSome_some, Option.getD_some, Bool.or_true, ck_true]

theorem isVolume_is (x : Volume) : impl_isVolume x = some (oneV x) := by
  unfold impl_isVolume oneV
  simp only [impl_ValidTime, impl_in_is, impl_IsName_is, Option.bind_some, Option.isSome_some, Option.getD_some, Bool.or_true, ck_true]
  congr 1
  rw [Bool.eq_iff_iff]
  simp only [Bool.and_eq_true, decide_eq_true_eq]
  constructor
  · rintro ⟨⟨⟨h1, ⟨⟨h2, h3⟩, h4, h5⟩, h6⟩, h7⟩, h8⟩
    exact ⟨⟨⟨⟨h1, h2, h3⟩, h6, h5⟩, h7⟩, h8⟩
  · rintro ⟨⟨⟨⟨h1, h2, h3⟩, h6, h5⟩, h7⟩, h8⟩
    exact ⟨⟨⟨h1, ⟨⟨h2, h3⟩, by omega, h5⟩, h6⟩, h7⟩, h8⟩

theorem oneV_in {x : Volume} (h : oneV x = true) : (0 ≤ x.From ∧ x.From ≤ x.To ∧ x.To ≤ 10000000) ∧ (1 ≤ x.Count ∧ x.Count ≤ 1000000) ∧ 0 ≤ x.Copies ∧ x.Copies ≤ 5 := by
  unfold oneV at h
  simp only [Bool.and_eq_true, decide_eq_true_eq] at h
  obtain ⟨⟨⟨⟨_, h1, h2⟩, h3, h4⟩, h5⟩, h6⟩ := h
  exact ⟨⟨h1, h3, h4⟩, h5, h6⟩

def okV (l : List Volume) (i : Nat) : Bool := oneV (l.getD i default) && !(decide (0 < i) && !Op.bytesLess (l.getD (i - 1) default).Name (l.getD i default).Name)
def goodV (l : List Volume) : Bool := (List.range l.length).all (okV l)
def validV (l : List Volume) : Bool := goodV l && decide (l.length ≤ 40)

theorem l23_step {l : List Volume} (hl : l.length ≤ 1099511627776) {i : Nat} (hi : i < l.length) : spec_l23Ok_l1 l (i : Int) = some (if okV l i = true then .inl ((i + 1 : Nat) : Int) else .inr (.inr false)) := by
  simp only [spec_l23Ok_l1, ixOk_nat, hi, decide_true, ck_true, Int.ofNat_lt, if_true, Int.toNat_natCast, wrap_nat1 (show i < 9223372036854775807 by omega), l23One_is, Option.bind_some, Option.isSome_some, Option.getD_some, Bool.or_true]
  unfold okV
  by_cases h0 : 0 < i
  · have e0 : decide ((0 : Int) < (i : Int)) = true := by simpa using h0
    have e1 : decide (0 < i) = true := by simpa using h0
    have w1 : IntKind.i64.wrap ((i : Int) - 1) = ((i - 1 : Nat) : Int) := by rw [wrap_i64 (by omega) (by omega)]; omega
    have ok1 : ixOk ((i - 1 : Nat) : Int) l.length = true := by rw [ixOk_nat]; simp; omega
    simp only [e0, e1, w1, ok1, Bool.or_true, ck_true, Bool.true_and, Int.toNat_natCast]
    generalize oneV (l.getD i default) = A
    generalize Op.bytesLess (l.getD (i - 1) default).Name (l.getD i default).Name = B
    cases A <;> cases B <;> rfl
  · have e0 : decide ((0 : Int) < (i : Int)) = false := by simpa using h0
    have e1 : decide (0 < i) = false := by simpa using h0
    simp only [e0, e1, Bool.false_and, Bool.and_false, Bool.not_false, Bool.true_or, ck_true, Bool.or_false, Bool.and_true]
    generalize oneV (l.getD i default) = A
    cases A <;> rfl

theorem l23Ok_is {l : List Volume} (hl : l.length ≤ 1099511627776) : spec_l23Ok l = some (validV l) := by
  unfold spec_l23Ok validV
  rw [while_all (step := spec_l23Ok_l1 l) (okV l) l.length (goodV l) (yes := .inl ()) (no := .inr false) (by unfold goodV; simp) (fun i hi => l23_step hl hi) (by simp [spec_l23Ok_l1])]
  have e : decide ((l.length : Int) ≤ 40) = decide (l.length ≤ 40) := by rw [Bool.eq_iff_iff]; simp; omega
  simp only [Option.bind_some, ite_b]
  cases goodV l <;> simp [e]

theorem rising_step {l : List Volume} (hl : l.length ≤ 1099511627776) {i : Nat} (hi : i < l.length) : impl_rising_impl_Volume__impl_isVolume__impl_volumeName_l1 l l (l.length : Int) (i : Int) = some (if okV l i = true then .inl ((i + 1 : Nat) : Int) else .inr (.inr false)) := by
  simp only [impl_rising_impl_Volume__impl_isVolume__impl_volumeName_l1, impl_volumeName, ixOk_nat, hi, decide_true, ck_true, Int.ofNat_lt, if_true, Int.toNat_natCast, wrap_nat1 (show i < 9223372036854775807 by omega), isVolume_is, Option.bind_some, Option.isSome_some, Option.getD_some, Bool.or_true]
  unfold okV
  by_cases h0 : 0 < i
  · have e0 : decide ((0 : Int) < (i : Int)) = true := by simpa using h0
    have e1 : decide (0 < i) = true := by simpa using h0
    have w1 : IntKind.i64.wrap ((i : Int) - 1) = ((i - 1 : Nat) : Int) := by rw [wrap_i64 (by omega) (by omega)]; omega
    have ok1 : ixOk ((i - 1 : Nat) : Int) l.length = true := by rw [ixOk_nat]; simp; omega
    simp only [e0, e1, w1, ok1, Bool.or_true, ck_true, Bool.true_and, Int.toNat_natCast]
    generalize oneV (l.getD i default) = A
    generalize Op.bytesLess (l.getD (i - 1) default).Name (l.getD i default).Name = B
    cases A <;> cases B <;> rfl
  · have e0 : decide ((0 : Int) < (i : Int)) = false := by simpa using h0
    have e1 : decide (0 < i) = false := by simpa using h0
    simp only [e0, e1, Bool.false_and, Bool.and_false, Bool.not_false, Bool.true_or, ck_true, Bool.or_false, Bool.and_true]
    generalize oneV (l.getD i default) = A
    cases A <;> rfl

theorem ValidVolumes_is {l : List Volume} (hl : l.length ≤ 1099511627776) : impl_ValidVolumes l = some (validV l) := by
  unfold impl_ValidVolumes impl_rising_impl_Volume__impl_isVolume__impl_volumeName validV
  by_cases h : 40 < (l.length : Int)
  · have e : decide (l.length ≤ 40) = false := by simp; omega
    simp [h, e]
  · have e : decide (l.length ≤ 40) = true := by simp; omega
    simp only [h, decide_false, Bool.false_eq_true, if_false]
    rw [while_all (step := impl_rising_impl_Volume__impl_isVolume__impl_volumeName_l1 l l (l.length : Int)) (okV l) l.length (goodV l) (yes := .inl ()) (no := .inr false) (by unfold goodV; simp) (fun i hi => rising_step hl hi) (by simp [impl_rising_impl_Volume__impl_isVolume__impl_volumeName_l1])]
    simp only [Option.bind_some, ite_b, e]
    cases goodV l <;> rfl

theorem goodV_iff {l : List Volume} : goodV l = true ↔ ∀ i, i < l.length → oneV (l.getD i default) = true ∧ (0 < i → Op.bytesLess (l.getD (i - 1) default).Name (l.getD i default).Name = true) := by
  unfold goodV okV
  simp only [List.all_eq_true, List.mem_range, Bool.and_eq_true, Bool.not_eq_true', Bool.and_eq_false_iff, decide_eq_false_iff_not, Bool.not_eq_false']
  constructor
  · intro h i hi
    obtain ⟨a, b⟩ := h i hi
    refine ⟨a, fun h0 => ?_⟩
    rcases b with b | b
    · exact absurd h0 b
    · exact b
  · intro h i hi
    obtain ⟨a, b⟩ := h i hi
    refine ⟨a, ?_⟩
    by_cases h0 : 0 < i
    · exact .inr (b h0)
    · exact .inl h0

end Go.Proofs.Ytikaacjlnkfebaa
