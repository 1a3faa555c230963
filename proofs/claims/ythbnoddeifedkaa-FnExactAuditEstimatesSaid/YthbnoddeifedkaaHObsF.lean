/- What typed forms say: observers, which are valid, and which has a name. No condition. -/
import Derived.Test.YthbnoddeifedkaaHName
import Derived.Test.YthbnoddeifedkaaHUtil
namespace Go.Proofs.Ythbnoddeifedkaa
open Go Go.RowKit
set_option linter.unusedSimpArgs false
set_option linter.unusedVariables false

def oneO (x : Observer) : Bool := nameB x.Name && (decide (-2000 ≤ x.Shift) && decide (x.Shift ≤ 2000))

theorem l05One_is (x : Observer) : spec_l05One x = some (oneO x) := by
  unfold spec_l05One oneO
  simp only [spec_l00In_is, spec_IsName_is, Option.bind_some, Option.isSome_some, Option.getD_some, Bool.or_true, ck_true]

theorem isObserver_is (x : Observer) : impl_isObserver x = some (oneO x) := by
  unfold impl_isObserver oneO
  simp only [impl_in_is, impl_IsName_is, Option.bind_some, Option.isSome_some, Option.getD_some, Bool.or_true, ck_true]

theorem oneO_in {x : Observer} (h : oneO x = true) : -2000 ≤ x.Shift ∧ x.Shift ≤ 2000 := by
  unfold oneO at h
  simp only [Bool.and_eq_true, decide_eq_true_eq] at h
  exact h.2

def okO (l : List Observer) (i : Nat) : Bool := oneO (l.getD i default) && !(decide (0 < i) && !Op.bytesLess (l.getD (i - 1) default).Name (l.getD i default).Name)
def goodO (l : List Observer) : Bool := (List.range l.length).all (okO l)
def validO (l : List Observer) : Bool := goodO l && decide (l.length ≤ 40)

theorem l05_step {l : List Observer} (hl : l.length ≤ 1099511627776) {i : Nat} (hi : i < l.length) : spec_l05Ok_l1 l (i : Int) = some (if okO l i = true then .inl ((i + 1 : Nat) : Int) else .inr (.inr false)) := by
  simp only [spec_l05Ok_l1, ixOk_nat, hi, decide_true, ck_true, Int.ofNat_lt, if_true, Int.toNat_natCast, wrap_nat1 (show i < 9223372036854775807 by omega), l05One_is, Option.bind_some, Option.isSome_some, Option.getD_some, Bool.or_true]
  unfold okO
  by_cases h0 : 0 < i
  · have e0 : decide ((0 : Int) < (i : Int)) = true := by simpa using h0
    have e1 : decide (0 < i) = true := by simpa using h0
    have w1 : IntKind.i64.wrap ((i : Int) - 1) = ((i - 1 : Nat) : Int) := by rw [wrap_i64 (by omega) (by omega)]; omega
    have ok1 : ixOk ((i - 1 : Nat) : Int) l.length = true := by rw [ixOk_nat]; simp; omega
    simp only [e0, e1, w1, ok1, Bool.or_true, ck_true, Bool.true_and, Int.toNat_natCast]
    generalize oneO (l.getD i default) = A
    generalize Op.bytesLess (l.getD (i - 1) default).Name (l.getD i default).Name = B
    cases A <;> cases B <;> rfl
  · have e0 : decide ((0 : Int) < (i : Int)) = false := by simpa using h0
    have e1 : decide (0 < i) = false := by simpa using h0
    simp only [e0, e1, Bool.false_and, Bool.and_false, Bool.not_false, Bool.true_or, ck_true, Bool.or_false, Bool.and_true]
    generalize oneO (l.getD i default) = A
    cases A <;> rfl

theorem l05Ok_is {l : List Observer} (hl : l.length ≤ 1099511627776) : spec_l05Ok l = some (validO l) := by
  unfold spec_l05Ok validO
  rw [while_all (step := spec_l05Ok_l1 l) (okO l) l.length (goodO l) (yes := .inl ()) (no := .inr false) (by unfold goodO; simp) (fun i hi => l05_step hl hi) (by simp [spec_l05Ok_l1])]
  have e : decide ((l.length : Int) ≤ 40) = decide (l.length ≤ 40) := by rw [Bool.eq_iff_iff]; simp; omega
  simp only [Option.bind_some, ite_b]
  cases goodO l <;> simp [e]

theorem rising_step {l : List Observer} (hl : l.length ≤ 1099511627776) {i : Nat} (hi : i < l.length) : impl_rising_impl_Observer__impl_isObserver__impl_observerName_l1 l l (l.length : Int) (i : Int) = some (if okO l i = true then .inl ((i + 1 : Nat) : Int) else .inr (.inr false)) := by
  simp only [impl_rising_impl_Observer__impl_isObserver__impl_observerName_l1, impl_observerName, ixOk_nat, hi, decide_true, ck_true, Int.ofNat_lt, if_true, Int.toNat_natCast, wrap_nat1 (show i < 9223372036854775807 by omega), isObserver_is, Option.bind_some, Option.isSome_some, Option.getD_some, Bool.or_true]
  unfold okO
  by_cases h0 : 0 < i
  · have e0 : decide ((0 : Int) < (i : Int)) = true := by simpa using h0
    have e1 : decide (0 < i) = true := by simpa using h0
    have w1 : IntKind.i64.wrap ((i : Int) - 1) = ((i - 1 : Nat) : Int) := by rw [wrap_i64 (by omega) (by omega)]; omega
    have ok1 : ixOk ((i - 1 : Nat) : Int) l.length = true := by rw [ixOk_nat]; simp; omega
    simp only [e0, e1, w1, ok1, Bool.or_true, ck_true, Bool.true_and, Int.toNat_natCast]
    generalize oneO (l.getD i default) = A
    generalize Op.bytesLess (l.getD (i - 1) default).Name (l.getD i default).Name = B
    cases A <;> cases B <;> rfl
  · have e0 : decide ((0 : Int) < (i : Int)) = false := by simpa using h0
    have e1 : decide (0 < i) = false := by simpa using h0
    simp only [e0, e1, Bool.false_and, Bool.and_false, Bool.not_false, Bool.true_or, ck_true, Bool.or_false, Bool.and_true]
    generalize oneO (l.getD i default) = A
    cases A <;> rfl

theorem ValidObservers_is {l : List Observer} (hl : l.length ≤ 1099511627776) : impl_ValidObservers l = some (validO l) := by
  unfold impl_ValidObservers impl_rising_impl_Observer__impl_isObserver__impl_observerName validO
  by_cases h : 40 < (l.length : Int)
  · have e : decide (l.length ≤ 40) = false := by simp; omega
    simp [h, e]
  · have e : decide (l.length ≤ 40) = true := by simp; omega
    simp only [h, decide_false, Bool.false_eq_true, if_false]
    rw [while_all (step := impl_rising_impl_Observer__impl_isObserver__impl_observerName_l1 l l (l.length : Int)) (okO l) l.length (goodO l) (yes := .inl ()) (no := .inr false) (by unfold goodO; simp) (fun i hi => rising_step hl hi) (by simp [impl_rising_impl_Observer__impl_isObserver__impl_observerName_l1])]
    simp only [Option.bind_some, ite_b, e]
    cases goodO l <;> rfl

theorem goodO_iff {l : List Observer} : goodO l = true ↔ ∀ i, i < l.length → oneO (l.getD i default) = true ∧ (0 < i → Op.bytesLess (l.getD (i - 1) default).Name (l.getD i default).Name = true) := by
  unfold goodO okO
  simp only [List.all_eq_true, List.mem_range, Bool.and_eq_true, Bool.not_eq_true', Bool.and_eq_false_iff, decide_eq_false_iff_not, Bool.not_eq_false']
  constructor
  · intro h i hi
    obtain ⟨a, b⟩ := h i hi
    refine ⟨a, fun h0 => ?_⟩
    rcases b with b | b
    · exact absurd h0 b
    · exact b
  · intro h i hi
    obtain ⟨a, b⟩ := h i hi
    refine ⟨a, ?_⟩
    by_cases h0 : 0 < i
    · exact .inr (b h0)
    · exact .inl h0

/-! ### The observer with a name -/

def findO (l : List Observer) (n : List UInt8) : Option Nat := (List.range l.length).find? fun i => (l.getD i default).Name == n

theorem l05Find_is {l : List Observer} (hl : l.length ≤ 1099511627776) (n : List UInt8) : spec_l05Find l n = some (match findO l n with | some j => (j : Int) | none => -1) := by
  unfold spec_l05Find
  rw [while_find (step := spec_l05Find_l1 l n) (fun i => (l.getD i default).Name == n) (fun i => (i : Int)) l.length (fun i hi => by
    simp only [spec_l05Find_l1, ixOk_nat, hi, decide_true, ck_true, Int.ofNat_lt, if_true, Int.toNat_natCast, wrap_nat1 (show i < 9223372036854775807 by omega)]
    split <;> rfl) (by simp [spec_l05Find_l1])]
  show ((some (match findO l n with | some j => .inr (j : Int) | none => .inl ()) : Option (Unit ⊕ Int))).bind _ = _
  cases findO l n <;> rfl

theorem findObserver_is {l : List Observer} (hl : l.length ≤ 1099511627776) (n : List UInt8) : impl_findObserver l n = some (match findO l n with | some j => ((j : Int), 0) | none => (0, 3)) := by
  unfold impl_findObserver impl_indexOf_impl_Observer__impl_findObserver_c1 slices_IndexFunc_impl_Observer_impl_Observer__impl_findObserver_c1
  rw [while_find (step := slices_IndexFunc_impl_Observer_impl_Observer__impl_findObserver_c1_l1 l n (l.length : Int)) (fun i => (l.getD i default).Name == n) (fun i => (i : Int)) l.length (fun i hi => by
    simp only [slices_IndexFunc_impl_Observer_impl_Observer__impl_findObserver_c1_l1, impl_findObserver_c1, Option.bind_some, ixOk_nat, hi, decide_true, ck_true, Int.ofNat_lt, if_true, Int.toNat_natCast, wrap_nat1 (show i < 9223372036854775807 by omega)]
    split <;> rfl) (by simp [slices_IndexFunc_impl_Observer_impl_Observer__impl_findObserver_c1_l1])]
  show ((((some (match findO l n with | some j => .inr (j : Int) | none => .inl ()) : Option (Unit ⊕ Int))).bind _).bind _).bind _ = _
  cases h : findO l n with
  | none => rfl
  | some j =>
    have : (0 : Int) ≤ (j : Int) := by omega
    simp [this]

theorem findO_some {l : List Observer} {n : List UInt8} {j : Nat} (h : findO l n = some j) : j < l.length ∧ (l.getD j default).Name = n ∧ ∀ i, i < j → (l.getD i default).Name ≠ n := by
  unfold findO at h
  rw [List.find?_range_eq_some] at h
  obtain ⟨h1, h2, h3⟩ := h
  exact ⟨by simpa using h2, by simpa using h1, fun i hi => by simpa using h3 i hi⟩

theorem findO_none {l : List Observer} {n : List UInt8} (h : findO l n = none) : ∀ i, i < l.length → (l.getD i default).Name ≠ n := by
  unfold findO at h
  rw [List.find?_eq_none] at h
  intro i hi
  simpa using h i (by simpa using hi)

theorem findO_of {l : List Observer} {n : List UInt8} {j : Nat} (h1 : j < l.length) (h2 : (l.getD j default).Name = n) (h3 : ∀ i, i < j → (l.getD i default).Name ≠ n) : findO l n = some j := by
  unfold findO
  rw [List.find?_range_eq_some]
  exact ⟨by simpa using h2, by simpa using h1, fun i hi => by simpa using h3 i hi⟩


end Go.Proofs.Ythbnoddeifedkaa
