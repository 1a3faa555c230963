/- Plain lemmas, several texts in one. No condition. -/
import Derived.Test.YtegelahoakkaaaaGreatDoorHPA
/- What typed forms say: observers, which are valid, and which has a name. No condition. -/
namespace Go.Proofs.YtegelahoakkaaaaGreatDoor
open Go Go.RowKit
set_option linter.unusedSimpArgs false
set_option linter.unusedVariables false

def oneO (x : Observer) : Bool := nameB x.Name && (decide (-2000 ≤ x.Shift) && decide (x.Shift ≤ 2000))

theorem l05One_is (x : Observer) : spec_l05One x = some (oneO x) := by
  unfold spec_l05One oneO
  simp only [spec_l00In_is, spec_IsName_is, Option.bind_some, Option.isSome_some, Option.getD_some, Bool.or_true, ck_true]

theorem isObserver_is (x : Observer) : impl_isObserver x = some (oneO x) := by
  unfold impl_isObserver oneO
  simp only [impl_in_is, impl_IsName_is, Option.bind_some, Option.isSome_some, Option.getD_some, Bool.or_true, ck_true]

theorem oneO_in {x : Observer} (h : oneO x = true) : -2000 ≤ x.Shift ∧ x.Shift ≤ 2000 := by
  unfold oneO at h
  simp only [Bool.and_eq_true, decide_eq_true_eq] at h
  exact h.2

def okO (l : List Observer) (i : Nat) : Bool := oneO (l.getD i default) && !(decide (0 < i) && !Op.bytesLess (l.getD (i - 1) default).Name (l.getD i default).Name)
def goodO (l : List Observer) : Bool := (List.range l.length).all (okO l)
def validO (l : List Observer) : Bool := goodO l && decide (l.length ≤ 40)

theorem l05_step {l : List Observer} (hl : l.length ≤ 1099511627776) {i : Nat} (hi : i < l.length) : spec_l05Ok_l1 l (i : Int) = some (if okO l i = true then .inl ((i + 1 : Nat) : Int) else .inr (.inr false)) := by
  simp only [spec_l05Ok_l1, ixOk_nat, hi, decide_true, ck_true, Int.ofNat_lt, if_true, Int.toNat_natCast, wrap_nat1 (show i < 9223372036854775807 by omega), l05One_is, Option.bind_some, Option.isSome_some, Option.getD_some, Bool.or_true]
  unfold okO
  by_cases h0 : 0 < i
  · have e0 : decide ((0 : Int) < (i : Int)) = true := by simpa using h0
    have e1 : decide (0 < i) = true := by simpa using h0
    have w1 : IntKind.i64.wrap ((i : Int) - 1) = ((i - 1 : Nat) : Int) := by rw [wrap_i64 (by omega) (by omega)]; omega
    have ok1 : ixOk ((i - 1 : Nat) : Int) l.length = true := by rw [ixOk_nat]; simp; omega
    simp only [e0, e1, w1, ok1, Bool.or_true, ck_true, Bool.true_and, Int.toNat_natCast]
    generalize oneO (l.getD i default) = A
    generalize Op.bytesLess (l.getD (i - 1) default).Name (l.getD i default).Name = B
    cases A <;> cases B <;> rfl
  · have e0 : decide ((0 : Int) < (i : Int)) = false := by simpa using h0
    have e1 : decide (0 < i) = false := by simpa using h0
    simp only [e0, e1, Bool.false_and, Bool.and_false, Bool.not_false, Bool.true_or, ck_true, Bool.or_false, Bool.and_true]
    generalize oneO (l.getD i default) = A
    cases A <;> rfl

theorem l05Ok_is {l : List Observer} (hl : l.length ≤ 1099511627776) : spec_l05Ok l = some (validO l) := by
  unfold spec_l05Ok validO
  rw [while_all (step := spec_l05Ok_l1 l) (okO l) l.length (goodO l) (yes := .inl ()) (no := .inr false) (by unfold goodO; simp) (fun i hi => l05_step hl hi) (by simp [spec_l05Ok_l1])]
  have e : decide ((l.length : Int) ≤ 40) = decide (l.length ≤ 40) := by rw [Bool.eq_iff_iff]; simp; omega
  simp only [Option.bind_some, ite_b]
  cases goodO l <;> simp [e]

theorem rising_step {l : List Observer} (hl : l.length ≤ 1099511627776) {i : Nat} (hi : i < l.length) : impl_rising_impl_Observer__impl_isObserver__impl_observerName_l1 l l (l.length : Int) (i : Int) = some (if okO l i = true then .inl ((i + 1 : Nat) : Int) else .inr (.inr false)) := by
  simp only [impl_rising_impl_Observer__impl_isObserver__impl_observerName_l1, impl_observerName, ixOk_nat, hi, decide_true, ck_true, Int.ofNat_lt, if_true, Int.toNat_natCast, wrap_nat1 (show i < 9223372036854775807 by omega), isObserver_is, Option.bind_some, Option.isSome_some, Option.getD_some, Bool.or_true]
  unfold okO
  by_cases h0 : 0 < i
  · have e0 : decide ((0 : Int) < (i : Int)) = true := by simpa using h0
    have e1 : decide (0 < i) = true := by simpa using h0
    have w1 : IntKind.i64.wrap ((i : Int) - 1) = ((i - 1 : Nat) : Int) := by rw [wrap_i64 (by omega) (by omega)]; omega
    have ok1 : ixOk ((i - 1 : Nat) : Int) l.length = true := by rw [ixOk_nat]; simp; omega
    simp only [e0, e1, w1, ok1, Bool.or_true, ck_true, Bool.true_and, Int.toNat_natCast]
    generalize oneO (l.getD i default) = A
    generalize Op.bytesLess (l.getD (i - 1) default).Name (l.getD i default).Name = B
    cases A <;> cases B <;> rfl
  · have e0 : decide ((0 : Int) < (i : Int)) = false := by simpa using h0
    have e1 : decide (0 < i) = false := by simpa using h0
    simp only [e0, e1, Bool.false_and, Bool.and_false, Bool.not_false, Bool.true_or, ck_true, Bool.or_false, Bool.and_true]
    generalize oneO (l.getD i default) = A
    cases A <;> rfl

theorem ValidObservers_is {l : List Observer} (hl : l.length ≤ 1099511627776) : impl_ValidObservers l = some (validO l) := by
  unfold impl_ValidObservers impl_rising_impl_Observer__impl_isObserver__impl_observerName validO
  by_cases h : 40 < (l.length : Int)
  · have e : decide (l.length ≤ 40) = false := by simp; omega
    simp [h, e]
  · have e : decide (l.length ≤ 40) = true := by simp; omega
    simp only [h, decide_false, Bool.false_eq_true, if_false]
    rw [while_all (step := impl_rising_impl_Observer__impl_isObserver__impl_observerName_l1 l l (l.length : Int)) (okO l) l.length (goodO l) (yes := .inl ()) (no := .inr false) (by unfold goodO; simp) (fun i hi => rising_step hl hi) (by simp [impl_rising_impl_Observer__impl_isObserver__impl_observerName_l1])]
    simp only [Option.bind_some, ite_b, e]
    cases goodO l <;> rfl

theorem goodO_iff {l : List Observer} : goodO l = true ↔ ∀ i, i < l.length → oneO (l.getD i default) = true ∧ (0 < i → Op.bytesLess (l.getD (i - 1) default).Name (l.getD i default).Name = true) := by
  unfold goodO okO
  simp only [List.all_eq_true, List.mem_range, Bool.and_eq_true, Bool.not_eq_true', Bool.and_eq_false_iff, decide_eq_false_iff_not, Bool.not_eq_false']
  constructor
  · intro h i hi
    obtain ⟨a, b⟩ := h i hi
    refine ⟨a, fun h0 => ?_⟩
    rcases b with b | b
    · exact absurd h0 b
    · exact b
  · intro h i hi
    obtain ⟨a, b⟩ := h i hi
    refine ⟨a, ?_⟩
    by_cases h0 : 0 < i
    · exact .inr (b h0)
    · exact .inl h0

/-! ### The observer with a name -/

def findO (l : List Observer) (n : List UInt8) : Option Nat := (List.range l.length).find? fun i => (l.getD i default).Name == n

theorem l05Find_is {l : List Observer} (hl : l.length ≤ 1099511627776) (n : List UInt8) : spec_l05Find l n = some (match findO l n with | some j => (j : Int) | none => -1) := by
  unfold spec_l05Find
  rw [while_find (step := spec_l05Find_l1 l n) (fun i => (l.getD i default).Name == n) (fun i => (i : Int)) l.length (fun i hi => by
    simp only [spec_l05Find_l1, ixOk_nat, hi, decide_true, ck_true, Int.ofNat_lt, if_true, Int.toNat_natCast, wrap_nat1 (show i < 9223372036854775807 by omega)]
    split <;> rfl) (by simp [spec_l05Find_l1])]
  show ((some (match findO l n with | some j => .inr (j : Int) | none => .inl ()) : Option (Unit ⊕ Int))).bind _ = _
  cases findO l n <;> rfl

theorem findObserver_is {l : List Observer} (hl : l.length ≤ 1099511627776) (n : List UInt8) : impl_findObserver l n = some (match findO l n with | some j => ((j : Int), 0) | none => (0, 3)) := by
  unfold impl_findObserver impl_indexOf_impl_Observer__impl_findObserver_c1 slices_IndexFunc_impl_Observer_impl_Observer__impl_findObserver_c1
  rw [while_find (step := slices_IndexFunc_impl_Observer_impl_Observer__impl_findObserver_c1_l1 l n (l.length : Int)) (fun i => (l.getD i default).Name == n) (fun i => (i : Int)) l.length (fun i hi => by
    simp only [slices_IndexFunc_impl_Observer_impl_Observer__impl_findObserver_c1_l1, impl_findObserver_c1, Option.bind_some, ixOk_nat, hi, decide_true, ck_true, Int.ofNat_lt, if_true, Int.toNat_natCast, wrap_nat1 (show i < 9223372036854775807 by omega)]
    split <;> rfl) (by simp [slices_IndexFunc_impl_Observer_impl_Observer__impl_findObserver_c1_l1])]
  show ((((some (match findO l n with | some j => .inr (j : Int) | none => .inl ()) : Option (Unit ⊕ Int))).bind _).bind _).bind _ = _
  cases h : findO l n with
  | none => rfl
  | some j =>
    have : (0 : Int) ≤ (j : Int) := by omega
    simp [this]

theorem findO_some {l : List Observer} {n : List UInt8} {j : Nat} (h : findO l n = some j) : j < l.length ∧ (l.getD j default).Name = n ∧ ∀ i, i < j → (l.getD i default).Name ≠ n := by
  unfold findO at h
  rw [List.find?_range_eq_some] at h
  obtain ⟨h1, h2, h3⟩ := h
  exact ⟨by simpa using h2, by simpa using h1, fun i hi => by simpa using h3 i hi⟩

theorem findO_none {l : List Observer} {n : List UInt8} (h : findO l n = none) : ∀ i, i < l.length → (l.getD i default).Name ≠ n := by
  unfold findO at h
  rw [List.find?_eq_none] at h
  intro i hi
  simpa using h i (by simpa using hi)

theorem findO_of {l : List Observer} {n : List UInt8} {j : Nat} (h1 : j < l.length) (h2 : (l.getD j default).Name = n) (h3 : ∀ i, i < j → (l.getD i default).Name ≠ n) : findO l n = some j := by
  unfold findO
  rw [List.find?_range_eq_some]
  exact ⟨by simpa using h2, by simpa using h1, fun i hi => by simpa using h3 i hi⟩

theorem copyO_is {l : List Observer} (hl : l.length ≤ 1000000) : impl_copyOf_impl_Observer l = some l := by
  unfold impl_copyOf_impl_Observer
  rw [appOk_of (by simp; omega), ck_true]; rfl

theorem validO_good {l : List Observer} (h : validO l = true) : goodO l = true ∧ l.length ≤ 40 := by
  unfold validO at h
  simp only [Bool.and_eq_true, decide_eq_true_eq] at h
  exact h

end Go.Proofs.YtegelahoakkaaaaGreatDoor

/- What typed forms say: a observer is stored. No condition. -/
namespace Go.Proofs.YtegelahoakkaaaaGreatDoor
open Go Go.RowKit
set_option linter.unusedSimpArgs false
set_option linter.unusedVariables false

theorem blO_lt : ∀ a b : List UInt8, Op.bytesLess a b = decide (a < b)
  | [], [] => by simp [Op.bytesLess]
  | _ :: _, [] => by simp [Op.bytesLess]
  | [], _ :: _ => by simp [Op.bytesLess]
  | x :: a, y :: b => by
    simp only [Op.bytesLess, blO_lt a b, List.cons_lt_cons_iff]
    by_cases c1 : x < y <;> by_cases c2 : x = y <;> by_cases c3 : a < b <;> simp [c1, c2, c3]
theorem ltO_irr (a : List UInt8) : ¬ a < a := List.lt_irrefl a
theorem ltO_tr {a b c : List UInt8} (h1 : a < b) (h2 : b < c) : a < c := List.lt_trans h1 h2
theorem ltO_tri (a b : List UInt8) : a < b ∨ a = b ∨ b < a := by
  by_cases h : a < b
  · exact .inl h
  · by_cases h2 : b < a
    · exact .inr (.inr h2)
    · exact .inr (.inl (List.le_antisymm (List.not_lt.1 h2) (List.not_lt.1 h)))

theorem next_lt {l : List Observer} (hg : goodO l = true) {i : Nat} (h0 : 0 < i) (hi : i < l.length) : (l.getD (i - 1) default).Name < (l.getD i default).Name := by
  have := (goodO_iff.1 hg i hi).2 h0
  rw [blO_lt] at this
  exact of_decide_eq_true this

theorem up_lt {l : List Observer} (hg : goodO l = true) : ∀ (d i : Nat), i + d + 1 < l.length → (l.getD i default).Name < (l.getD (i + d + 1) default).Name
  | 0, i, h => by have := next_lt hg (i := i + 1) (by omega) h; simpa using this
  | d + 1, i, h => by
    have h1 := up_lt hg d i (by omega)
    have h2 := next_lt hg (i := i + d + 1 + 1) (by omega) h
    rw [Nat.add_sub_cancel] at h2
    rw [show i + (d + 1) + 1 = i + d + 1 + 1 by omega]
    exact ltO_tr h1 h2

theorem up_lt' {l : List Observer} (hg : goodO l = true) {i j : Nat} (hij : i < j) (hj : j < l.length) : (l.getD i default).Name < (l.getD j default).Name := by
  have := up_lt hg (j - i - 1) i (by omega)
  rw [show i + (j - i - 1) + 1 = j by omega] at this
  exact this

/-- The place of a name. -/
def placed (l : List Observer) (n : List UInt8) (k : Nat) : Prop := k ≤ l.length ∧ (∀ i, i < k → (l.getD i default).Name < n) ∧ ∀ i, k ≤ i → i < l.length → n < (l.getD i default).Name

theorem placed_one {l : List Observer} {n : List UInt8} {a b : Nat} (ha : placed l n a) (hb : placed l n b) : a = b := by
  rcases Nat.lt_trichotomy a b with h | h | h
  · exact absurd (ltO_tr (hb.2.1 a h) (ha.2.2 a (Nat.le_refl _) (by have := hb.1; omega))) (ltO_irr _)
  · exact h
  · exact absurd (ltO_tr (ha.2.1 b h) (hb.2.2 b (Nat.le_refl _) (by have := ha.1; omega))) (ltO_irr _)

theorem insert_loop {l : List Observer} (hl : l.length ≤ 1000000) (hg : goodO l = true) {x : Observer} (hf : findO l x.Name = none) : ∃ k : Nat, whileE (impl_inserted_impl_Observer__impl_observerName_l1 l x) 0 = some (k : Int) ∧ placed l x.Name k := by
  have hne := findO_none hf
  obtain ⟨y, hy, k, rfl, hk⟩ := while_post (step := impl_inserted_impl_Observer__impl_observerName_l1 l x) (fun s => ∃ k : Nat, s = (k : Int) ∧ k ≤ l.length ∧ ∀ i, i < k → (l.getD i default).Name < x.Name) (fun r => ∃ k : Nat, r = (k : Int) ∧ placed l x.Name k) (fun s => l.length - s.toNat) (by
    rintro s ⟨k, rfl, h1, h2⟩
    by_cases c : k < l.length
    · have c' : (k : Int) < (l.length : Int) := by omega
      simp only [impl_inserted_impl_Observer__impl_observerName_l1, impl_observerName, Option.isSome_some, Option.getD_some, Bool.or_true, ck_true, ixOk_nat, c, decide_true, c', Bool.true_and, Int.toNat_natCast, blO_lt]
      by_cases c2 : (l.getD k default).Name < x.Name
      · left
        rw [if_pos (by simpa using c2), wrap_nat1 (show k < 9223372036854775807 by omega)]
        exact ⟨_, rfl, ⟨k + 1, rfl, c, fun i hi => by
          by_cases e : i = k
          · subst e; exact c2
          · exact h2 i (by omega)⟩, by simp only [Int.toNat_natCast]; omega⟩
      · right
        rw [if_neg (by simpa using c2)]
        refine ⟨_, rfl, k, rfl, h1, h2, fun i hi1 hi2 => ?_⟩
        have hk : x.Name < (l.getD k default).Name := by
          rcases ltO_tri (l.getD k default).Name x.Name with h | h | h
          · exact absurd h c2
          · exact absurd h (hne k c)
          · exact h
        by_cases e : i = k
        · subst e; exact hk
        · exact ltO_tr hk (up_lt' hg (by omega) hi2)
    · right
      have c' : ¬ (k : Int) < (l.length : Int) := by omega
      simp only [impl_inserted_impl_Observer__impl_observerName_l1, impl_observerName, Option.isSome_some, Option.getD_some, Bool.or_true, ck_true, c', decide_false, Bool.not_false, Bool.true_or, Bool.false_and, Bool.false_eq_true, if_false]
      exact ⟨_, rfl, k, rfl, h1, h2, fun i a b => by omega⟩) (s := (0 : Int)) ⟨0, rfl, Nat.zero_le _, fun i h => by omega⟩
  exact ⟨k, hy, hk⟩

theorem store_loop {l : List Observer} (hl : l.length ≤ 1000000) (hg : goodO l = true) {x : Observer} (hf : findO l x.Name = none) : ∃ k : Nat, whileE (spec_AddObserver_l1 l x) (l.length : Int) = some (k : Int) ∧ placed l x.Name k := by
  have hne := findO_none hf
  obtain ⟨y, hy, k, rfl, hk⟩ := while_post (step := spec_AddObserver_l1 l x) (fun s => ∃ k : Nat, s = (k : Int) ∧ k ≤ l.length ∧ ∀ i, k ≤ i → i < l.length → x.Name < (l.getD i default).Name) (fun r => ∃ k : Nat, r = (k : Int) ∧ placed l x.Name k) (fun s => s.toNat) (by
    rintro s ⟨k, rfl, h1, h2⟩
    by_cases c : 0 < k
    · have c' : (0 : Int) < (k : Int) := by omega
      have w : IntKind.i64.wrap ((k : Int) - 1) = ((k - 1 : Nat) : Int) := by rw [wrap_i64 (by omega) (by omega)]; omega
      have ok : decide (k - 1 < l.length) = true := by simp; omega
      simp only [spec_AddObserver_l1, w, ixOk_nat, ok, Bool.or_true, ck_true, c', decide_true, Bool.true_and, Int.toNat_natCast, blO_lt]
      have hc := hne (k - 1) (by omega)
      have hcb : ((l.getD (k - 1) default).Name == x.Name) = false := by simpa using hc
      rw [hcb, Bool.or_false]
      by_cases c2 : (l.getD (k - 1) default).Name < x.Name
      · right
        rw [if_neg (by simpa using c2)]
        refine ⟨_, rfl, k, rfl, h1, fun i hi => ?_, h2⟩
        by_cases e : i = k - 1
        · subst e; exact c2
        · exact ltO_tr (up_lt' hg (by omega) (by omega)) c2
      · left
        rw [if_pos (by simpa using c2)]
        refine ⟨_, rfl, ⟨k - 1, rfl, by omega, fun i a b => ?_⟩, by simp only [Int.toNat_natCast]; omega⟩
        by_cases e : i = k - 1
        · subst e
          rcases ltO_tri (l.getD (k - 1) default).Name x.Name with h | h | h
          · exact absurd h c2
          · exact absurd h hc
          · exact h
        · exact h2 i (by omega) b
    · right
      have c0 : k = 0 := by omega
      subst c0
      exact ⟨((0 : Nat) : Int), by simp [spec_AddObserver_l1, ck], 0, rfl, h1, fun i h => by omega, h2⟩) (s := (l.length : Int)) ⟨l.length, rfl, Nat.le_refl _, fun i a b => by omega⟩
  exact ⟨k, hy, hk⟩

def putO (l : List Observer) (k : Nat) (x : Observer) : List Observer := l.take k ++ x :: l.drop k

theorem putO_len {l : List Observer} {k : Nat} (hk : k ≤ l.length) (x : Observer) : (putO l k x).length = l.length + 1 := by unfold putO; simp; omega

theorem putO_get {l : List Observer} {k : Nat} (hk : k ≤ l.length) (x : Observer) (i : Nat) : (putO l k x).getD i default = if i < k then l.getD i default else if i = k then x else l.getD (i - 1) default := by
  unfold putO
  have hl : (l.take k).length = k := by rw [List.length_take]; omega
  rw [List.getD_eq_getElem?_getD]
  by_cases c : i < k
  · rw [if_pos c, List.getElem?_append_left (by omega), List.getElem?_take, if_pos c, List.getD_eq_getElem?_getD]
  · rw [if_neg c, List.getElem?_append_right (by omega), hl]
    by_cases c2 : i = k
    · subst c2; simp
    · rw [if_neg c2, show i - k = (i - 1 - k) + 1 by omega, List.getElem?_cons_succ, List.getElem?_drop, show k + (i - 1 - k) = i - 1 by omega, List.getD_eq_getElem?_getD]

theorem putO_good {l : List Observer} (hg : goodO l = true) {x : Observer} (hx : oneO x = true) {k : Nat} (hp : placed l x.Name k) : goodO (putO l k x) = true := by
  obtain ⟨h1, h2, h3⟩ := hp
  refine goodO_iff.2 fun i hi => ?_
  rw [putO_len h1] at hi
  rw [putO_get h1, putO_get h1]
  refine ⟨?_, fun h0 => ?_⟩
  · split
    · exact (goodO_iff.1 hg i (by omega)).1
    · split
      · exact hx
      · exact (goodO_iff.1 hg (i - 1) (by omega)).1
  · rw [blO_lt, decide_eq_true_eq]
    by_cases c1 : i < k
    · rw [if_pos (by omega), if_pos c1]
      exact next_lt hg h0 (by omega)
    · rw [if_neg c1]
      by_cases c2 : i = k
      · subst c2
        rw [if_pos (by omega), if_pos rfl]
        exact h2 _ (by omega)
      · rw [if_neg c2]
        by_cases c3 : i - 1 = k
        · rw [if_neg (by omega), if_pos c3]
          exact h3 _ (by omega) (by omega)
        · rw [if_neg (by omega), if_neg c3]
          exact next_lt hg (by omega) (by omega)

theorem Store_same {l : List Observer} (hl : l.length ≤ 1000000) (x : Observer) : ∃ y c, y.length ≤ 1000000 ∧ impl_AddObserver l x = some (y, c) ∧ spec_AddObserver l x = some (y, c) ∧ (c = 0 → validO y = true ∧ oneO x = true ∧ ∃ k, k < y.length ∧ y.getD k default = x) := by
  unfold impl_AddObserver spec_AddObserver
  rw [ValidObservers_is (by omega), l05Ok_is (by omega), Option.bind_some, Option.bind_some, isObserver_is, l05One_is]
  cases hv : validO l
  · exact ⟨[], 1, by simp, rfl, rfl, fun h => by cases h⟩
  · obtain ⟨hg, h40⟩ := validO_good hv
    cases hx : oneO x
    · exact ⟨[], 2, by simp, rfl, rfl, fun h => by cases h⟩
    · simp only [Bool.not_true, Bool.false_eq_true, if_false, Option.bind_some]
      rw [findObserver_is (by omega), l05Find_is (by omega), Option.bind_some, Option.bind_some]
      cases hf : findO l x.Name with
      | some j =>
        have : (0 : Int) ≤ (j : Int) := by omega
        simp only [beq_self_eq_true, if_true, this, decide_true]
        exact ⟨[], 4, by simp, rfl, rfl, fun h => by cases h⟩
      | none =>
        simp only [show ((3 : Int) == 0) = false from rfl, show decide ((0 : Int) ≤ -1) = false from rfl, Bool.false_eq_true, if_false]
        by_cases h : l.length = 40
        · rw [if_pos (by simp [h]), if_pos (by simp [h])]
          exact ⟨[], 5, by simp, rfl, rfl, fun h => by cases h⟩
        · rw [if_neg (by simp; omega), if_neg (by simp; omega)]
          obtain ⟨k, e1, p1⟩ := insert_loop hl hg hf
          obtain ⟨k', e2, p2⟩ := store_loop hl hg hf
          obtain rfl := placed_one p1 p2
          have hk := p1.1
          have c1 : cut l (0 : Int) (k : Int) = l.take k := by unfold cut; simp
          have c2 : cut l (k : Int) (l.length : Int) = l.drop k := by unfold cut; simp
          have ins : hIns 24 l (k : Int) ([x] : List Observer) = some (putO l k x) := by
            unfold hIns insOk
            rw [if_pos (by simp; omega)]
            simp [putO]
          have out : (([] : List Observer) ++ l.take k) ++ [x] ++ l.drop k = putO l k x := by unfold putO; simp
          have hlen := putO_len hk x
          refine ⟨putO l k x, 0, by omega, ?_, ?_, fun _ => ⟨?_, trivial, k, by omega, ?_⟩⟩
          · unfold impl_inserted_impl_Observer__impl_observerName
            rw [e1, Option.bind_some, copyO_is hl, Option.bind_some, ins]; rfl
          · rw [e2, Option.bind_some, cutOk_of (by omega) (by omega) (by omega), ck_true, c1, c2, appOk_of (by simp; omega), ck_true, appOk_of (by simp; omega), ck_true, cutOk_of (by omega) (by omega) (by omega), ck_true, appOk_of (by simp; omega), ck_true, out]
          · unfold validO
            rw [putO_good hg hx p1, hlen]
            simp; omega
          · rw [putO_get hk, if_neg (by omega), if_pos rfl]

end Go.Proofs.YtegelahoakkaaaaGreatDoor

/- What typed forms say: the texts of observers. No condition. -/
namespace Go.Proofs.YtegelahoakkaaaaGreatDoor
open Go Go.RowKit
set_option linter.unusedSimpArgs false
set_option linter.unusedVariables false

def numO (n : Int) : List UInt8 := if n < 0 then Lib.itoa n else 43 :: Lib.itoa n
def textO (x : Observer) : List UInt8 := x.Name ++ 32 :: numO x.Shift

theorem itoa_neg {n : Int} (h : n < 0) : Lib.itoa n = 45 :: Lib.itoa (-n) := by
  have e : Lib.itoa (-n) = Lib.decDigits (-n).toNat := by unfold Lib.itoa; rw [if_neg (by omega)]
  rw [e]
  unfold Lib.itoa
  rw [if_pos h, show n.natAbs = (-n).toNat by omega]

theorem itoa_free {n : Int} (h : 0 ≤ n) {c : UInt8} (hc : dig c = false) : c ∉ Lib.itoa n := by
  obtain ⟨u, rfl⟩ := Int.eq_ofNat_of_zero_le h
  rw [itoa_nat]; exact dec_free hc u

theorem itoa_one {n : Int} (h : 0 ≤ n) : 1 ≤ (Lib.itoa n).length := by
  obtain ⟨u, rfl⟩ := Int.eq_ofNat_of_zero_le h
  rw [itoa_nat]; exact decDigits_ne u

theorem nameO_free {s : List UInt8} (h : nameB s = true) : (32 : UInt8) ∉ s := by
  unfold nameB at h
  simp only [Bool.and_eq_true, List.all_eq_true, List.mem_range] at h
  intro hm
  obtain ⟨i, hi, he⟩ := List.getElem_of_mem hm
  have := h.2.2 i hi
  rw [getD_lt hi, he] at this
  cases i with
  | zero => exact absurd this (by decide)
  | succ i =>
    have e : (i + 1 == 0) = false := by simp
    rw [e] at this
    exact absurd this (by decide)

theorem numO_free (n : Int) : (32 : UInt8) ∉ numO n := by
  unfold numO
  split
  · rename_i h
    rw [itoa_neg h]
    simp only [List.mem_cons, not_or]
    exact ⟨by decide, itoa_free (by omega) (by decide)⟩
  · simp only [List.mem_cons, not_or]
    exact ⟨by decide, itoa_free (by omega) (by decide)⟩

theorem numO_len {n : Int} (h : R64 n) : 2 ≤ (numO n).length ∧ (numO n).length ≤ 22 := by
  have := itoa_len h
  unfold numO
  split
  · rename_i c
    have h2 := itoa_one (n := -n) (by omega)
    have e := congrArg List.length (itoa_neg c)
    rw [List.length_cons] at e
    omega
  · have h2 := itoa_one (n := n) (by omega)
    rw [List.length_cons]; omega

theorem oneO_name {x : Observer} (h : oneO x = true) : nameB x.Name = true := by
  unfold oneO at h; simp only [Bool.and_eq_true] at h; exact h.1

theorem oneO_len {x : Observer} (h : oneO x = true) : x.Name.length ≤ 12 := by
  have := oneO_name h
  unfold nameB at this; simp only [Bool.and_eq_true, decide_eq_true_eq] at this; exact this.2.1

theorem oneO_r64 {x : Observer} (h : oneO x = true) : R64 x.Shift := by
  have := oneO_in h
  exact ⟨by omega, by omega⟩

theorem splitO {x : Observer} (h : oneO x = true) : splitOn 32 (textO x) = [x.Name, numO x.Shift] := split_join 32 [x.Name, numO x.Shift] (by simp) (by
  intro p hp
  simp only [List.mem_cons, List.not_mem_nil, or_false] at hp
  rcases hp with rfl | rfl
  · exact nameO_free (oneO_name h)
  · exact numO_free _)

/-! ### The text is made -/

theorem ObserverText_impl (x : Observer) : impl_ObserverText x = some (if oneO x = true then textO x else []) := by
  unfold impl_ObserverText
  rw [isObserver_is, Option.bind_some]
  cases h : oneO x
  · rfl
  · have hn := oneO_len h
    have hi := oneO_in h
    simp only [Bool.not_true, Bool.false_eq_true, if_false, if_true]
    by_cases c : x.Shift < 0
    · have e1 : impl_abs x.Shift = some (-x.Shift) := by
        unfold impl_abs
        rw [if_pos (by simpa using c), wrap_i64 (by omega) (by omega)]
        congr 1; omega
      have r : R64 (-x.Shift) := ⟨by omega, by omega⟩
      have l := itoa_len r
      rw [if_pos (by simpa using c), catOk_of (by simp; omega), ck_true, e1, Option.bind_some, Decimal_is r, Option.bind_some, catOk_of (by simp; omega), ck_true]
      unfold textO numO
      rw [if_pos c, itoa_neg c]
      simp
    · have e1 : impl_abs x.Shift = some x.Shift := by
        unfold impl_abs
        rw [if_neg (by simpa using c)]
      have r : R64 x.Shift := ⟨by omega, by omega⟩
      have l := itoa_len r
      rw [if_neg (by simpa using c), catOk_of (by simp; omega), ck_true, e1, Option.bind_some, Decimal_is r, Option.bind_some, catOk_of (by simp; omega), ck_true]
      unfold textO numO
      rw [if_neg c]
      simp

theorem l05Text_is {x : Observer} (hr : R64 x.Shift) (hl : x.Name.length ≤ 1000) : spec_l05Text x = some (textO x) := by
  have l := itoa_len hr
  unfold spec_l05Text
  by_cases c : x.Shift < 0
  · rw [if_pos (by simpa using c), catOk_of (by simp; omega), ck_true, l01Dec_is hr, Option.bind_some, catOk_of (by simp; omega), ck_true]
    unfold textO numO
    rw [if_pos c]
    simp
  · rw [if_neg (by simpa using c), catOk_of (by simp; omega), ck_true, l01Dec_is hr, Option.bind_some, catOk_of (by simp; omega), ck_true]
    unfold textO numO
    rw [if_neg c]
    simp

theorem textO_len {x : Observer} (hr : R64 x.Shift) (hl : x.Name.length ≤ 1000) : (textO x).length ≤ 2000 := by
  have := numO_len hr
  unfold textO
  simp only [List.length_append, List.length_cons]
  omega

theorem ObserverText_spec (x : Observer) : spec_ObserverText x = some (if oneO x = true then textO x else []) := by
  unfold spec_ObserverText
  rw [l05One_is, Option.bind_some]
  cases h : oneO x
  · rfl
  · have := oneO_len h
    rw [l05Text_is (oneO_r64 h) (by omega)]; rfl

/-! ### A text is read -/

noncomputable def readO (s : List UInt8) : Observer × Bool := open Classical in if h : ∃ x, oneO x = true ∧ s = textO x then (h.choose, true) else (⟨[], 0⟩, false)

theorem rdO_of {n : Int} (h0 : 0 ≤ n) (h1 : n ≤ 10000000) : rdDec (Lib.itoa n) = (n, true) := rdDec_any (by omega) (by omega)

theorem numO_inj {a b : Int} (ha : -2000 ≤ a ∧ a ≤ 2000) (hb : -2000 ≤ b ∧ b ≤ 2000) (h : numO a = numO b) : a = b := by
  have inj : ∀ {a b : Int}, (-2000 ≤ a ∧ a ≤ 2000) → (-2000 ≤ b ∧ b ≤ 2000) → Lib.itoa a = Lib.itoa b → a = b := fun {a b} p q e => by
    have h1 := rdDec_any (n := a) (by omega) (by omega)
    rw [e, rdDec_any (n := b) (by omega) (by omega)] at h1
    exact ((Prod.mk.inj h1).1).symm
  unfold numO at h
  split at h
  · rename_i c1
    split at h
    · exact inj ha hb h
    · rw [itoa_neg c1] at h
      exact absurd (List.cons.inj h).1 (by decide)
  · split at h
    · rename_i c2
      rw [itoa_neg c2] at h
      exact absurd (List.cons.inj h).1 (by decide)
    · exact inj ha hb (List.cons.inj h).2

theorem textO_inj {x y : Observer} (hx : oneO x = true) (hy : oneO y = true) (h : textO x = textO y) : x = y := by
  have e : [x.Name, numO x.Shift] = [y.Name, numO y.Shift] := by rw [← splitO hx, ← splitO hy, h]
  simp only [List.cons.injEq, and_true] at e
  have e2 := numO_inj (oneO_in hx) (oneO_in hy) e.2
  cases x; cases y
  simp only [Observer.mk.injEq]
  exact ⟨e.1, e2⟩

theorem readO_text {x : Observer} (h : oneO x = true) : readO (textO x) = (x, true) := by
  unfold readO
  have hex : ∃ y, oneO y = true ∧ textO x = textO y := ⟨x, h, rfl⟩
  rw [dif_pos hex]
  have := hex.choose_spec
  exact congrArg (fun y => (y, true)) (textO_inj h this.1 this.2).symm

theorem readO_none {s : List UInt8} (h : ¬ ∃ x, oneO x = true ∧ s = textO x) : readO s = (⟨[], 0⟩, false) := by
  unfold readO; rw [dif_neg h]

theorem partO_len (c : UInt8) : ∀ (s acc p : List UInt8), p ∈ splitAcc c acc s → p.length ≤ acc.length + s.length
  | [], acc, p, h => by
    simp only [splitAcc, List.mem_singleton] at h
    subst h; simp
  | x :: r, acc, p, h => by
    rw [splitAcc] at h
    split at h
    · rcases List.mem_cons.1 h with rfl | h
      · simp
      · have := partO_len c r [] p h
        simp only [List.length_nil, List.length_cons] at this ⊢; omega
    · have := partO_len c r (acc ++ [x]) p h
      simp only [List.length_append, List.length_cons, List.length_nil] at this ⊢; omega

theorem splitO_len {c : UInt8} {s p : List UInt8} (h : p ∈ splitOn c s) : p.length ≤ s.length := by
  have := partO_len c s [] p h
  simpa using this

theorem splitO_join (c : UInt8) (s : List UInt8) : joinOn c (splitOn c s) = s := by unfold splitOn; rw [join_splitAcc]; rfl

/-- The reference's reading. -/
theorem ReadObserver_spec {s : List UInt8} (hl : s.length ≤ 1048576) : spec_ReadObserver s = some (readO s) := by
  unfold spec_ReadObserver
  rw [l01Split_is 32 hl, Option.bind_some]
  have hj := splitO_join 32 s
  have hpl : ∀ p ∈ splitOn 32 s, p.length ≤ 1048576 := fun p hp => Nat.le_trans (splitO_len hp) hl
  by_cases hex : ∃ x, oneO x = true ∧ s = textO x
  · obtain ⟨x, hx, rfl⟩ := hex
    have hi := oneO_in hx
    have hr := oneO_r64 hx
    have hn := numO_len hr
    rw [readO_text hx, splitO hx]
    show ck true (if (false || decide (((numO x.Shift).length : Int) < 2)) = true then _ else ck true (ck (ixOk 0 (numO x.Shift).length) _)) = _
    rw [ck_true, Bool.false_or, ck_true, if_neg (by simp; omega), ixOk_of (by omega) (by omega), ck_true]
    have ex : (Observer.mk x.Name x.Shift) = x := by cases x; rfl
    by_cases c : x.Shift < 0
    · have e : numO x.Shift = 45 :: Lib.itoa (-x.Shift) := by unfold numO; rw [if_pos c, itoa_neg c]
      have e' : Lib.itoa x.Shift = numO x.Shift := by unfold numO; rw [if_pos c]
      have en : spec_l01Number (numO x.Shift) = some (x.Shift, true) := by
        rw [l01Number_is (by omega), ← e', rdDec_any (by omega) (by omega)]
      have hd : (((numO x.Shift).getD 0 0).toNat : Int) = 45 := by rw [e]; rfl
      show (if ((((numO x.Shift).getD 0 0).toNat : Int) == 43) = true then _ else if (!((((numO x.Shift).getD 0 0).toNat : Int) == 45)) = true then _ else (spec_l01Number (numO x.Shift)).bind _) = _
      rw [hd, if_neg (by decide), if_neg (by decide), en, Option.bind_some]
      show ck true (ck (!(!(!true || (((((numO x.Shift).getD 0 0).toNat : Int) == 43) && decide (x.Shift < 0)))) || (spec_l05One (Observer.mk x.Name x.Shift)).isSome) (if ((!true || (((((numO x.Shift).getD 0 0).toNat : Int) == 43) && decide (x.Shift < 0))) || !((spec_l05One (Observer.mk x.Name x.Shift)).getD default)) = true then some (⟨[], 0⟩, false) else some (Observer.mk x.Name x.Shift, true))) = _
      rw [hd, ex, l05One_is, hx]; rfl
    · have e : numO x.Shift = 43 :: Lib.itoa x.Shift := by unfold numO; rw [if_neg c]
      have hil := itoa_len hr
      have hcut : cut (numO x.Shift) 1 ((numO x.Shift).length : Int) = Lib.itoa x.Shift := by rw [e]; simp [cut]
      have en : spec_l01Number (cut (numO x.Shift) 1 ((numO x.Shift).length : Int)) = some (x.Shift, true) := by
        rw [hcut, l01Number_is (by omega), rdDec_any (by omega) (by omega)]
      have hd : (((numO x.Shift).getD 0 0).toNat : Int) = 43 := by rw [e]; rfl
      show (if ((((numO x.Shift).getD 0 0).toNat : Int) == 43) = true then ck (cutOk 1 ((numO x.Shift).length : Int) (numO x.Shift).length) ((spec_l01Number (cut (numO x.Shift) 1 ((numO x.Shift).length : Int))).bind _) else _) = _
      rw [hd, if_pos (by decide), cutOk_of (by omega) (by omega) (by omega), ck_true, en, Option.bind_some]
      show ck true (ck (!(!(!true || (((((numO x.Shift).getD 0 0).toNat : Int) == 43) && decide (x.Shift < 0)))) || (spec_l05One (Observer.mk x.Name x.Shift)).isSome) (if ((!true || (((((numO x.Shift).getD 0 0).toNat : Int) == 43) && decide (x.Shift < 0))) || !((spec_l05One (Observer.mk x.Name x.Shift)).getD default)) = true then some (⟨[], 0⟩, false) else some (Observer.mk x.Name x.Shift, true))) = _
      rw [hd, ex, l05One_is, hx]
      simp [c, ck_true]
  · rw [readO_none hex]
    generalize splitOn 32 s = w at hj hpl
    by_cases h2 : w.length = 2
    · obtain ⟨a, b, rfl⟩ : ∃ a b, w = [a, b] := by
        match w, h2 with
        | [a, b], _ => exact ⟨a, b, rfl⟩
      have hb := hpl b (by simp)
      have hs : s = a ++ 32 :: b := hj.symm
      show ck true (if (false || decide ((b.length : Int) < 2)) = true then _ else ck true (ck (ixOk 0 b.length) _)) = _
      rw [ck_true, Bool.false_or, ck_true]
      by_cases c : b.length < 2
      · rw [if_pos (by simp; omega)]
      · rw [if_neg (by simp; omega), ixOk_of (by omega) (by omega), ck_true]
        show (if (((b.getD 0 0).toNat : Int) == 43) = true then ck (cutOk 1 (b.length : Int) b.length) ((spec_l01Number (cut b 1 (b.length : Int))).bind fun y_8 => ck true (ck (!(!((!y_8.2) || ((((b.getD 0 0).toNat : Int) == 43) && (decide (y_8.1 < 0))))) || (spec_l05One (Observer.mk a y_8.1)).isSome) (if (((!y_8.2) || ((((b.getD 0 0).toNat : Int) == 43) && (decide (y_8.1 < 0)))) || (!((spec_l05One (Observer.mk a y_8.1)).getD default))) = true then some (⟨[], 0⟩, false) else some (Observer.mk a y_8.1, true))))
          else if (!(((b.getD 0 0).toNat : Int) == 45)) = true then some (⟨[], 0⟩, false) else (spec_l01Number b).bind fun y_13 => ck true (ck (!(!((!y_13.2) || ((((b.getD 0 0).toNat : Int) == 43) && (decide (y_13.1 < 0))))) || (spec_l05One (Observer.mk a y_13.1)).isSome) (if (((!y_13.2) || ((((b.getD 0 0).toNat : Int) == 43) && (decide (y_13.1 < 0)))) || (!((spec_l05One (Observer.mk a y_13.1)).getD default))) = true then some (⟨[], 0⟩, false) else some (Observer.mk a y_13.1, true)))) = _
        simp only [l05One_is, Option.isSome_some, Option.getD_some, Bool.or_true, ck_true]
        cases b with
        | nil => exact absurd (by simp) c
        | cons k r =>
          rw [List.getD_cons_zero]
          by_cases k43 : k = 43
          · subst k43
            have hcut : cut ((43 : UInt8) :: r) 1 ((((43 : UInt8) :: r).length : Nat) : Int) = r := by simp [cut]
            have hrl : r.length ≤ 1048576 := by rw [List.length_cons] at hb; omega
            have e43 : ((((43 : UInt8).toNat : Nat) : Int) == 43) = true := by decide
            rw [e43, if_pos rfl, cutOk_of (by omega) (by simp; omega) (by omega), ck_true, hcut, l01Number_is hrl, Option.bind_some, Bool.true_and]
            refine if_pos (Classical.byContradiction fun hc => ?_)
            simp only [Bool.or_eq_true, not_or, Bool.not_eq_true', Bool.not_eq_false, decide_eq_true_eq] at hc
            obtain ⟨⟨q1, q2⟩, q3⟩ := hc
            obtain ⟨e1, _⟩ := rdDec_itoa q1
            refine hex ⟨_, q3, ?_⟩
            unfold textO numO
            rw [hs, if_neg q2, e1]
          · have e43 : (((k.toNat : Nat) : Int) == 43) = false := by
              rw [beq_eq_false_iff_ne]
              intro e
              exact k43 (by rw [← UInt8.toNat_inj]; show k.toNat = 43; omega)
            rw [e43, if_neg (by simp)]
            by_cases k45 : k = 45
            · subst k45
              rw [if_neg (by decide), l01Number_is hb, Option.bind_some, Bool.false_and, Bool.or_false]
              refine if_pos (Classical.byContradiction fun hc => ?_)
              simp only [Bool.or_eq_true, not_or, Bool.not_eq_true', Bool.not_eq_false, decide_eq_true_eq] at hc
              obtain ⟨q1, q3⟩ := hc
              obtain ⟨e1, _⟩ := rdDec_itoa q1
              have hneg : (rdDec (45 :: r)).1 < 0 := by
                refine Classical.byContradiction fun h0 => ?_
                have := itoa_free (n := (rdDec (45 :: r)).1) (by omega) (c := 45) (by decide)
                rw [e1] at this
                exact this (by simp)
              refine hex ⟨_, q3, ?_⟩
              unfold textO numO
              rw [hs, if_pos hneg, e1]
            · have e45 : (((k.toNat : Nat) : Int) == 45) = false := by
                rw [beq_eq_false_iff_ne]
                intro e
                exact k45 (by rw [← UInt8.toNat_inj]; show k.toNat = 45; omega)
              rw [e45, if_pos (by rfl)]
    · have e : (!((w.length : Int) == 2)) = true := by
        simp only [Bool.not_eq_true', beq_eq_false_iff_ne]; omega
      rw [e]; rfl

/-! ### The program's reading -/

theorem cutO_lens (s p : List UInt8) : (Lib.cut s p).1.length ≤ s.length ∧ (Lib.cut s p).2.1.length ≤ s.length := by
  unfold Lib.cut
  split <;> simp <;> omega

theorem CutPrefix_one (s : List UInt8) (c : UInt8) : strings_CutPrefix s [c] = some (match s with | [] => ([], false) | d :: r => if d = c then (r, true) else (d :: r, false)) := by
  unfold strings_CutPrefix internal_stringslite_CutPrefix internal_stringslite_HasPrefix
  cases s with
  | nil => rfl
  | cons d r =>
    have h1 : cut (d :: r) 0 (([c] : List UInt8).length : Int) = [d] := by simp [cut]
    have h2 : cut (d :: r) (([c] : List UInt8).length : Int) ((d :: r).length : Int) = r := by simp [cut]
    have h3 : decide ((([c] : List UInt8).length : Int) ≤ ((d :: r).length : Int)) = true := by simp; omega
    have h4 : cutOk 0 (([c] : List UInt8).length : Int) (d :: r).length = true := cutOk_of (by omega) (by simp) (by simp; omega)
    have h5 : cutOk (([c] : List UInt8).length : Int) ((d :: r).length : Int) (d :: r).length = true := cutOk_of (by simp) (by simp; omega) (by omega)
    rw [h1, h2, h3, h4, h5, Bool.or_true, ck_true, ck_true]
    simp only [Option.bind_some, Bool.true_and, Bool.not_true, Bool.false_or, ck_true]
    by_cases c1 : d = c
    · subst c1; simp
    · have : ([d] == [c]) = false := by simpa using c1
      simp [this, c1]

theorem rdDec_nil : rdDec [] = (0, false) := by simp [rdDec, Lib.trimPrefix, Lib.hasPrefix]

theorem ReadObserver_impl {s : List UInt8} (hl : s.length ≤ 1048576) : impl_ReadObserver s = some (readO s) := by
  unfold impl_ReadObserver
  obtain ⟨l1, l2⟩ := cutO_lens s [32]
  rw [hCut_one (by omega), Option.bind_some]
  simp only [CutPrefix_one, Option.bind_some, ObserverText_impl, Option.isSome_some, Option.getD_some, Bool.or_true, ck_true]
  by_cases hex : ∃ x, oneO x = true ∧ s = textO x
  · obtain ⟨x, hx, rfl⟩ := hex
    have hi := oneO_in hx
    have hr := oneO_r64 hx
    have ex : (Observer.mk x.Name x.Shift) = x := by cases x; rfl
    have hcut : Lib.cut (textO x) [32] = (x.Name, numO x.Shift, true) := cut_yes (nameO_free (oneO_name hx))
    rw [readO_text hx, hcut]
    by_cases c : x.Shift < 0
    · have e : numO x.Shift = 45 :: Lib.itoa (-x.Shift) := by unfold numO; rw [if_pos c, itoa_neg c]
      have r2 : R64 (-x.Shift) := ⟨by omega, by omega⟩
      have hil := itoa_len r2
      have w : IntKind.i64.wrap (0 - -x.Shift) = x.Shift := by rw [wrap_i64 (by omega) (by omega)]; omega
      simp only [e, if_true, Bool.not_true, Bool.false_eq_true, if_false]
      rw [hRdDec_eq (by omega), rdDec_any (n := -x.Shift) (by omega) (by omega), Option.bind_some]
      simp only [w, ex, hx, if_true]
      simp
    · have e : numO x.Shift = 43 :: Lib.itoa x.Shift := by unfold numO; rw [if_neg c]
      have hil := itoa_len hr
      simp only [e, show ¬ ((43 : UInt8) = 45) by decide, if_true, if_false, Bool.not_false, Bool.false_eq_true]
      rw [hRdDec_eq (by omega), rdDec_any (n := x.Shift) (by omega) (by omega), Option.bind_some]
      simp only [ex, hx, if_true]
      simp
  · rw [readO_none hex]
    have bad : ∀ (t : List UInt8) (n : Int), t.length ≤ 1048576 → (s = [] → t = []) → ((!(rdDec t).2) || (!((if oneO (Observer.mk (Lib.cut s [32]).1 n) = true then textO (Observer.mk (Lib.cut s [32]).1 n) else []) == s))) = true := fun t n ht hnil => by
      refine Classical.byContradiction fun hc => ?_
      simp only [Bool.or_eq_true, not_or, Bool.not_eq_true', Bool.not_eq_false, beq_iff_eq] at hc
      obtain ⟨q1, q2⟩ := hc
      split at q2
      · rename_i ho
        exact hex ⟨_, ho, q2.symm⟩
      · rw [hnil q2.symm, rdDec_nil] at q1
        cases q1
    have hn2 : s = [] → (Lib.cut s [32]).2.1 = [] := fun e => by subst e; rfl
    generalize (Lib.cut s [32]).2.1 = t at l2 hn2
    cases t with
    | nil =>
      simp only [Bool.not_false, if_true, Bool.false_eq_true, if_false]
      rw [hRdDec_eq (by simp), Option.bind_some, if_pos (bad _ _ (by simp) (fun _ => rfl))]
    | cons d r =>
      have hsn : s ≠ [] := fun e => by have := hn2 e; cases this
      have hrl : r.length ≤ 1048576 := by rw [List.length_cons] at l2; omega
      by_cases c1 : d = 45
      · simp only [c1, if_true, Bool.not_true, Bool.false_eq_true, if_false]
        rw [hRdDec_eq hrl, Option.bind_some, if_pos (bad _ _ hrl (fun e => absurd e hsn))]
      · by_cases c2 : d = 43
        · subst c2
          simp only [c1, if_true, Bool.not_false, Bool.false_eq_true, if_false]
          rw [hRdDec_eq hrl, Option.bind_some, if_pos (bad _ _ hrl (fun e => absurd e hsn))]
        · simp only [c1, c2, if_true, Bool.not_false, Bool.false_eq_true, if_false]
          rw [hRdDec_eq (by omega), Option.bind_some, if_pos (bad _ _ (by omega) (fun e => absurd e hsn))]

end Go.Proofs.YtegelahoakkaaaaGreatDoor

