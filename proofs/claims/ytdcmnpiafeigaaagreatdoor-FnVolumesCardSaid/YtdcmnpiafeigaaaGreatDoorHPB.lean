/- Plain lemmas, several texts in one. No condition. -/
import Derived.Test.YtdcmnpiafeigaaaGreatDoorHPA
/- What typed forms say: volumes, which are valid, and which has a name. No condition. -/
namespace Go.Proofs.YtdcmnpiafeigaaaGreatDoor
open Go Go.RowKit
set_option linter.unusedSimpArgs false
set_option linter.unusedVariables false

def oneV (x : Volume) : Bool := (((nameB x.Name && (decide (0 ≤ x.From) && decide (x.From ≤ 10000000))) && (decide (x.From ≤ x.To) && decide (x.To ≤ 10000000))) && (decide (1 ≤ x.Count) && decide (x.Count ≤ 1000000))) && (decide (0 ≤ x.Copies) && decide (x.Copies ≤ 5))

theorem l23One_is (x : Volume) : spec_l23One x = some (oneV x) := by
  unfold spec_l23One oneV
  simp only [spec_l03Time, spec_l00In_is, spec_IsName_is, Option.bind_some, Option.isSome_some, Option.getD_some, Bool.or_true, ck_true]

theorem isVolume_is (x : Volume) : impl_isVolume x = some (oneV x) := by
  unfold impl_isVolume oneV
  simp only [impl_ValidTime, impl_in_is, impl_IsName_is, Option.bind_some, Option.isSome_some, Option.getD_some, Bool.or_true, ck_true]
  congr 1
  rw [Bool.eq_iff_iff]
  simp only [Bool.and_eq_true, decide_eq_true_eq]
  constructor
  · rintro ⟨⟨⟨h1, ⟨⟨h2, h3⟩, h4, h5⟩, h6⟩, h7⟩, h8⟩
    exact ⟨⟨⟨⟨h1, h2, h3⟩, h6, h5⟩, h7⟩, h8⟩
  · rintro ⟨⟨⟨⟨h1, h2, h3⟩, h6, h5⟩, h7⟩, h8⟩
    exact ⟨⟨⟨h1, ⟨⟨h2, h3⟩, by omega, h5⟩, h6⟩, h7⟩, h8⟩

theorem oneV_in {x : Volume} (h : oneV x = true) : (0 ≤ x.From ∧ x.From ≤ x.To ∧ x.To ≤ 10000000) ∧ (1 ≤ x.Count ∧ x.Count ≤ 1000000) ∧ 0 ≤ x.Copies ∧ x.Copies ≤ 5 := by
  unfold oneV at h
  simp only [Bool.and_eq_true, decide_eq_true_eq] at h
  obtain ⟨⟨⟨⟨_, h1, h2⟩, h3, h4⟩, h5⟩, h6⟩ := h
  exact ⟨⟨h1, h3, h4⟩, h5, h6⟩

def okV (l : List Volume) (i : Nat) : Bool := oneV (l.getD i default) && !(decide (0 < i) && !Op.bytesLess (l.getD (i - 1) default).Name (l.getD i default).Name)
def goodV (l : List Volume) : Bool := (List.range l.length).all (okV l)
def validV (l : List Volume) : Bool := goodV l && decide (l.length ≤ 40)

theorem l23_step {l : List Volume} (hl : l.length ≤ 1099511627776) {i : Nat} (hi : i < l.length) : spec_l23Ok_l1 l (i : Int) = some (if okV l i = true then .inl ((i + 1 : Nat) : Int) else .inr (.inr false)) := by
  simp only [spec_l23Ok_l1, ixOk_nat, hi, decide_true, ck_true, Int.ofNat_lt, if_true, Int.toNat_natCast, wrap_nat1 (show i < 9223372036854775807 by omega), l23One_is, Option.bind_some, Option.isSome_some, Option.getD_some, Bool.or_true]
  unfold okV
  by_cases h0 : 0 < i
  · have e0 : decide ((0 : Int) < (i : Int)) = true := by simpa using h0
    have e1 : decide (0 < i) = true := by simpa using h0
    have w1 : IntKind.i64.wrap ((i : Int) - 1) = ((i - 1 : Nat) : Int) := by rw [wrap_i64 (by omega) (by omega)]; omega
    have ok1 : ixOk ((i - 1 : Nat) : Int) l.length = true := by rw [ixOk_nat]; simp; omega
    simp only [e0, e1, w1, ok1, Bool.or_true, ck_true, Bool.true_and, Int.toNat_natCast]
    generalize oneV (l.getD i default) = A
    generalize Op.bytesLess (l.getD (i - 1) default).Name (l.getD i default).Name = B
    cases A <;> cases B <;> rfl
  · have e0 : decide ((0 : Int) < (i : Int)) = false := by simpa using h0
    have e1 : decide (0 < i) = false := by simpa using h0
    simp only [e0, e1, Bool.false_and, Bool.and_false, Bool.not_false, Bool.true_or, ck_true, Bool.or_false, Bool.and_true]
    generalize oneV (l.getD i default) = A
    cases A <;> rfl

theorem l23Ok_is {l : List Volume} (hl : l.length ≤ 1099511627776) : spec_l23Ok l = some (validV l) := by
  unfold spec_l23Ok validV
  rw [while_all (step := spec_l23Ok_l1 l) (okV l) l.length (goodV l) (yes := .inl ()) (no := .inr false) (by unfold goodV; simp) (fun i hi => l23_step hl hi) (by simp [spec_l23Ok_l1])]
  have e : decide ((l.length : Int) ≤ 40) = decide (l.length ≤ 40) := by rw [Bool.eq_iff_iff]; simp; omega
  simp only [Option.bind_some, ite_b]
  cases goodV l <;> simp [e]

theorem rising_step {l : List Volume} (hl : l.length ≤ 1099511627776) {i : Nat} (hi : i < l.length) : impl_rising_impl_Volume__impl_isVolume__impl_volumeName_l1 l l (l.length : Int) (i : Int) = some (if okV l i = true then .inl ((i + 1 : Nat) : Int) else .inr (.inr false)) := by
  simp only [impl_rising_impl_Volume__impl_isVolume__impl_volumeName_l1, impl_volumeName, ixOk_nat, hi, decide_true, ck_true, Int.ofNat_lt, if_true, Int.toNat_natCast, wrap_nat1 (show i < 9223372036854775807 by omega), isVolume_is, Option.bind_some, Option.isSome_some, Option.getD_some, Bool.or_true]
  unfold okV
  by_cases h0 : 0 < i
  · have e0 : decide ((0 : Int) < (i : Int)) = true := by simpa using h0
    have e1 : decide (0 < i) = true := by simpa using h0
    have w1 : IntKind.i64.wrap ((i : Int) - 1) = ((i - 1 : Nat) : Int) := by rw [wrap_i64 (by omega) (by omega)]; omega
    have ok1 : ixOk ((i - 1 : Nat) : Int) l.length = true := by rw [ixOk_nat]; simp; omega
    simp only [e0, e1, w1, ok1, Bool.or_true, ck_true, Bool.true_and, Int.toNat_natCast]
    generalize oneV (l.getD i default) = A
    generalize Op.bytesLess (l.getD (i - 1) default).Name (l.getD i default).Name = B
    cases A <;> cases B <;> rfl
  · have e0 : decide ((0 : Int) < (i : Int)) = false := by simpa using h0
    have e1 : decide (0 < i) = false := by simpa using h0
    simp only [e0, e1, Bool.false_and, Bool.and_false, Bool.not_false, Bool.true_or, ck_true, Bool.or_false, Bool.and_true]
    generalize oneV (l.getD i default) = A
    cases A <;> rfl

theorem ValidVolumes_is {l : List Volume} (hl : l.length ≤ 1099511627776) : impl_ValidVolumes l = some (validV l) := by
  unfold impl_ValidVolumes impl_rising_impl_Volume__impl_isVolume__impl_volumeName validV
  by_cases h : 40 < (l.length : Int)
  · have e : decide (l.length ≤ 40) = false := by simp; omega
    simp [h, e]
  · have e : decide (l.length ≤ 40) = true := by simp; omega
    simp only [h, decide_false, Bool.false_eq_true, if_false]
    rw [while_all (step := impl_rising_impl_Volume__impl_isVolume__impl_volumeName_l1 l l (l.length : Int)) (okV l) l.length (goodV l) (yes := .inl ()) (no := .inr false) (by unfold goodV; simp) (fun i hi => rising_step hl hi) (by simp [impl_rising_impl_Volume__impl_isVolume__impl_volumeName_l1])]
    simp only [Option.bind_some, ite_b, e]
    cases goodV l <;> rfl

theorem goodV_iff {l : List Volume} : goodV l = true ↔ ∀ i, i < l.length → oneV (l.getD i default) = true ∧ (0 < i → Op.bytesLess (l.getD (i - 1) default).Name (l.getD i default).Name = true) := by
  unfold goodV okV
  simp only [List.all_eq_true, List.mem_range, Bool.and_eq_true, Bool.not_eq_true', Bool.and_eq_false_iff, decide_eq_false_iff_not, Bool.not_eq_false']
  constructor
  · intro h i hi
    obtain ⟨a, b⟩ := h i hi
    refine ⟨a, fun h0 => ?_⟩
    rcases b with b | b
    · exact absurd h0 b
    · exact b
  · intro h i hi
    obtain ⟨a, b⟩ := h i hi
    refine ⟨a, ?_⟩
    by_cases h0 : 0 < i
    · exact .inr (b h0)
    · exact .inl h0

/-! ### The volume with a name -/

def findV (l : List Volume) (n : List UInt8) : Option Nat := (List.range l.length).find? fun i => (l.getD i default).Name == n

theorem l23Find_is {l : List Volume} (hl : l.length ≤ 1099511627776) (n : List UInt8) : spec_l23Find l n = some (match findV l n with | some j => (j : Int) | none => -1) := by
  unfold spec_l23Find
  rw [while_find (step := spec_l23Find_l1 l n) (fun i => (l.getD i default).Name == n) (fun i => (i : Int)) l.length (fun i hi => by
    simp only [spec_l23Find_l1, ixOk_nat, hi, decide_true, ck_true, Int.ofNat_lt, if_true, Int.toNat_natCast, wrap_nat1 (show i < 9223372036854775807 by omega)]
    split <;> rfl) (by simp [spec_l23Find_l1])]
  show ((some (match findV l n with | some j => .inr (j : Int) | none => .inl ()) : Option (Unit ⊕ Int))).bind _ = _
  cases findV l n <;> rfl

theorem findVolume_is {l : List Volume} (hl : l.length ≤ 1099511627776) (n : List UInt8) : impl_findVolume l n = some (match findV l n with | some j => ((j : Int), 0) | none => (0, 3)) := by
  unfold impl_findVolume impl_indexOf_impl_Volume__impl_findVolume_c1 slices_IndexFunc_impl_Volume_impl_Volume__impl_findVolume_c1
  rw [while_find (step := slices_IndexFunc_impl_Volume_impl_Volume__impl_findVolume_c1_l1 l n (l.length : Int)) (fun i => (l.getD i default).Name == n) (fun i => (i : Int)) l.length (fun i hi => by
    simp only [slices_IndexFunc_impl_Volume_impl_Volume__impl_findVolume_c1_l1, impl_findVolume_c1, Option.bind_some, ixOk_nat, hi, decide_true, ck_true, Int.ofNat_lt, if_true, Int.toNat_natCast, wrap_nat1 (show i < 9223372036854775807 by omega)]
    split <;> rfl) (by simp [slices_IndexFunc_impl_Volume_impl_Volume__impl_findVolume_c1_l1])]
  show ((((some (match findV l n with | some j => .inr (j : Int) | none => .inl ()) : Option (Unit ⊕ Int))).bind _).bind _).bind _ = _
  cases h : findV l n with
  | none => rfl
  | some j =>
    have : (0 : Int) ≤ (j : Int) := by omega
    simp [this]

theorem findV_some {l : List Volume} {n : List UInt8} {j : Nat} (h : findV l n = some j) : j < l.length ∧ (l.getD j default).Name = n ∧ ∀ i, i < j → (l.getD i default).Name ≠ n := by
  unfold findV at h
  rw [List.find?_range_eq_some] at h
  obtain ⟨h1, h2, h3⟩ := h
  exact ⟨by simpa using h2, by simpa using h1, fun i hi => by simpa using h3 i hi⟩

theorem findV_none {l : List Volume} {n : List UInt8} (h : findV l n = none) : ∀ i, i < l.length → (l.getD i default).Name ≠ n := by
  unfold findV at h
  rw [List.find?_eq_none] at h
  intro i hi
  simpa using h i (by simpa using hi)

theorem findV_of {l : List Volume} {n : List UInt8} {j : Nat} (h1 : j < l.length) (h2 : (l.getD j default).Name = n) (h3 : ∀ i, i < j → (l.getD i default).Name ≠ n) : findV l n = some j := by
  unfold findV
  rw [List.find?_range_eq_some]
  exact ⟨by simpa using h2, by simpa using h1, fun i hi => by simpa using h3 i hi⟩

theorem copyV_is {l : List Volume} (hl : l.length ≤ 1000000) : impl_copyOf_impl_Volume l = some l := by
  unfold impl_copyOf_impl_Volume
  rw [appOk_of (by simp; omega), ck_true]; rfl

end Go.Proofs.YtdcmnpiafeigaaaGreatDoor

/- What typed forms say: copies of volumes, volumes at a time, the endangered ones, equal lists. No condition. -/
namespace Go.Proofs.YtdcmnpiafeigaaaGreatDoor
open Go Go.RowKit
set_option linter.unusedSimpArgs false
set_option linter.unusedVariables false

def chg (by_ : Int) (x : Volume) : Volume := ⟨x.Name, x.From, x.To, x.Count, x.Copies + by_⟩

def codeC (l : List Volume) (n : List UInt8) (by_ : Int) : List Volume × Int :=
  if validV l = true then (match findV l n with
    | none => ([], 3)
    | some j => if (l.getD j default).Copies = 0 then ([], 6) else if 5 < (l.getD j default).Copies + by_ then ([], 5) else (l.set j (chg by_ (l.getD j default)), 0)) else ([], 1)

theorem validV_good {l : List Volume} (h : validV l = true) : goodV l = true ∧ l.length ≤ 40 := by
  unfold validV at h
  simp only [Bool.and_eq_true, decide_eq_true_eq] at h
  exact h

theorem Change_same {l : List Volume} (hl : l.length ≤ 1000000) (n : List UInt8) {by_ : Int} (h1 : -1 ≤ by_) (h2 : by_ ≤ 1) : impl_changeCopies l n by_ = some (codeC l n by_) ∧ spec_l23Change l n by_ = some (codeC l n by_) := by
  have ap : appOk (([] : List Volume).length + l.length) 48 = true := appOk_of (by simp; omega)
  unfold impl_changeCopies spec_l23Change codeC
  rw [ValidVolumes_is (by omega), l23Ok_is (by omega), findVolume_is (by omega), l23Find_is (by omega), Option.bind_some, Option.bind_some, Option.bind_some, Option.bind_some]
  cases hv : validV l
  · exact ⟨rfl, rfl⟩
  · obtain ⟨hg, _⟩ := validV_good hv
    cases hf : findV l n with
    | none => exact ⟨rfl, rfl⟩
    | some j =>
      obtain ⟨f1, f2, _⟩ := findV_some hf
      obtain ⟨o, _⟩ := goodV_iff.1 hg j f1
      obtain ⟨_, _, c1, c2⟩ := oneV_in o
      have w : IntKind.i64.wrap ((l.getD j default).Copies + by_) = (l.getD j default).Copies + by_ := wrap_i64 (by omega) (by omega)
      have jn : ¬ (j : Int) < 0 := by omega
      simp only [Bool.not_true, Bool.false_eq_true, if_false, if_true, beq_self_eq_true, jn, decide_false, ixOk_nat, f1, decide_true, ck_true, Int.toNat_natCast, w, copyV_is hl, Option.bind_some, ap, List.nil_append]
      by_cases k1 : (l.getD j default).Copies = 0
      · rw [if_pos k1, if_pos (by simpa using k1)]
        exact ⟨rfl, rfl⟩
      · rw [if_neg k1, if_neg (by simpa using k1)]
        by_cases k2 : 5 < (l.getD j default).Copies + by_
        · rw [if_pos k2, if_pos (by simpa using k2)]
          exact ⟨rfl, rfl⟩
        · rw [if_neg k2, if_neg (by simpa using k2)]
          exact ⟨rfl, rfl⟩

theorem codeC_len {l : List Volume} (hl : l.length ≤ 1000000) (n : List UInt8) (by_ : Int) : (codeC l n by_).1.length ≤ 1000000 := by
  unfold codeC
  split
  · split
    · simp
    · split
      · simp
      · split
        · simp
        · simpa using hl
  · simp

theorem setV_getD {l : List Volume} {i : Nat} (hi : i < l.length) (x : Volume) (j : Nat) : (l.set i x).getD j default = if j = i then x else l.getD j default := by
  rw [List.getD_eq_getElem?_getD, List.getD_eq_getElem?_getD, List.getElem?_set]
  by_cases h : j = i
  · subst h; simp [hi]
  · rw [if_neg (fun c => h c.symm), if_neg h]

/-- A copy that is made and lost again. -/
theorem back_again {l : List Volume} {n : List UInt8} (h : (codeC l n 1).2 = 0) : codeC (codeC l n 1).1 n (-1) = (l, 0) := by
  unfold codeC at h
  split at h
  rotate_left
  · cases h
  rename_i hv
  split at h
  · cases h
  rename_i j hf
  split at h
  · cases h
  rename_i k1
  split at h
  · cases h
  rename_i k2
  obtain ⟨f1, f2, f3⟩ := findV_some hf
  obtain ⟨hg, h40⟩ := validV_good hv
  obtain ⟨o, _⟩ := goodV_iff.1 hg j f1
  obtain ⟨_, _, c1, c2⟩ := oneV_in o
  have e : codeC l n 1 = (l.set j (chg 1 (l.getD j default)), 0) := by
    unfold codeC; rw [if_pos hv, hf]; simp only [if_neg k1, if_neg k2]
  rw [e]
  simp only
  have hgd := fun i => setV_getD (l := l) f1 (chg 1 (l.getD j default)) i
  have hnm : ∀ i, ((l.set j (chg 1 (l.getD j default))).getD i default).Name = (l.getD i default).Name := fun i => by
    rw [hgd]; split
    · rename_i e; subst e; rfl
    · rfl
  have hv' : validV (l.set j (chg 1 (l.getD j default))) = true := by
    unfold validV
    rw [Bool.and_eq_true]
    refine ⟨goodV_iff.2 fun i hi => ?_, by simpa using h40⟩
    rw [List.length_set] at hi
    obtain ⟨a, b⟩ := goodV_iff.1 hg i hi
    refine ⟨?_, fun h0 => by rw [hnm, hnm]; exact b h0⟩
    rw [hgd]
    split
    · have e2 : oneV (chg 1 (l.getD j default)) = ((((nameB (l.getD j default).Name && (decide (0 ≤ (l.getD j default).From) && decide ((l.getD j default).From ≤ 10000000))) && (decide ((l.getD j default).From ≤ (l.getD j default).To) && decide ((l.getD j default).To ≤ 10000000))) && (decide (1 ≤ (l.getD j default).Count) && decide ((l.getD j default).Count ≤ 1000000))) && (decide (0 ≤ (l.getD j default).Copies + 1) && decide ((l.getD j default).Copies + 1 ≤ 5))) := rfl
      rw [e2]
      unfold oneV at o
      simp only [Bool.and_eq_true, decide_eq_true_eq] at o ⊢
      exact ⟨o.1, by omega, by omega⟩
    · exact a
  have hf' : findV (l.set j (chg 1 (l.getD j default))) n = some j := findV_of (by simpa using f1) (by rw [hnm]; exact f2) fun i hi => by rw [hnm]; exact f3 i hi
  unfold codeC
  rw [if_pos hv', hf']
  have hj : (l.set j (chg 1 (l.getD j default))).getD j default = chg 1 (l.getD j default) := by rw [hgd, if_pos rfl]
  simp only [hj]
  have k3 : ¬ (chg 1 (l.getD j default)).Copies = 0 := by show ¬ (l.getD j default).Copies + 1 = 0; omega
  have k4 : ¬ 5 < (chg 1 (l.getD j default)).Copies + (-1) := by show ¬ 5 < (l.getD j default).Copies + 1 + (-1); omega
  rw [if_neg k3, if_neg k4]
  have e3 : chg (-1) (chg 1 (l.getD j default)) = l.getD j default := by
    generalize l.getD j default = x
    cases x
    simp only [chg, Volume.mk.injEq, true_and]
    omega
  rw [e3, List.set_set]
  congr 1
  apply List.ext_getElem?
  intro i
  rw [List.getElem?_set]
  split
  · rename_i e; subst e
    rw [getD_lt f1, List.getElem?_eq_getElem f1]
  · rfl

/-! ### Volumes at a time, the endangered ones -/

def timeV (t : Int) : Bool := decide (0 ≤ t) && decide (t ≤ 10000000)
def atV (l : List Volume) (t : Int) : List Int := keptTo (α := Int) (fun i => decide ((l.getD i default).From ≤ t) && decide (t ≤ (l.getD i default).To)) (fun i => (i : Int)) l.length

theorem VolumesAt_same {l : List Volume} (hl : l.length ≤ 1000000) (t : Int) : impl_VolumesAt l t = some (if validV l = true then (if timeV t = true then (atV l t, 0) else ([], 2)) else ([], 1)) ∧ spec_VolumesAt l t = some (if validV l = true then (if timeV t = true then (atV l t, 0) else ([], 2)) else ([], 1)) := by
  have a : whileE (impl_indicesWhere__impl_VolumesAt_c1_l1 t l (l.length : Int)) (([] : List Int), 0) = some (atV l t) :=
    while_keep (step := impl_indicesWhere__impl_VolumesAt_c1_l1 t l (l.length : Int)) (fun i => decide ((l.getD i default).From ≤ t) && decide (t ≤ (l.getD i default).To)) (fun i => (i : Int)) l.length (r := atV l t) (fun out i hi ho => by
      simp only [impl_indicesWhere__impl_VolumesAt_c1_l1, impl_VolumesAt_c1, impl_in_is, Int.ofNat_lt, hi, decide_true, if_true, ixOk_nat, ck_true, Int.toNat_natCast, Option.bind_some, wrap_nat1 (show i < 9223372036854775807 by omega)]
      rw [appOk_of (by simp; omega), ck_true]
      split <;> rfl) (by simp [impl_indicesWhere__impl_VolumesAt_c1_l1, atV, keptTo])
  have b : whileE (spec_VolumesAt_l1 l t) (([] : List Int), 0) = some (atV l t) :=
    while_keep (step := spec_VolumesAt_l1 l t) (fun i => decide ((l.getD i default).From ≤ t) && decide (t ≤ (l.getD i default).To)) (fun i => (i : Int)) l.length (r := atV l t) (fun out i hi ho => by
      simp only [spec_VolumesAt_l1, spec_l00In_is, Int.ofNat_lt, hi, decide_true, if_true, ixOk_nat, ck_true, Int.toNat_natCast, Option.bind_some, wrap_nat1 (show i < 9223372036854775807 by omega)]
      rw [appOk_of (by simp; omega), ck_true]
      split <;> rfl) (by simp [spec_VolumesAt_l1, atV, keptTo])
  have t1 : impl_ValidTime t = some (timeV t) := id rfl
  have t2 : spec_l03Time t = some (timeV t) := id rfl
  unfold impl_VolumesAt spec_VolumesAt impl_indicesWhere__impl_VolumesAt_c1
  rw [ValidVolumes_is (by omega), l23Ok_is (by omega), a, b, t1, t2]
  simp only [Option.bind_some]
  cases validV l <;> cases timeV t <;> exact ⟨rfl, rfl⟩

/-- The fewest copies among the first n volumes that have some, k at most. -/
def leastV (l : List Volume) (k : Int) : Nat → Int
  | 0 => k
  | n + 1 => if 0 < (l.getD n default).Copies then (if (l.getD n default).Copies < leastV l k n then (l.getD n default).Copies else leastV l k n) else leastV l k n

theorem leastV_same {l : List Volume} (hg : goodV l = true) : ∀ n, n ≤ l.length → (leastV l 5 n = leastV l 6 n ∧ 1 ≤ leastV l 5 n ∧ leastV l 5 n ≤ 5) ∨ (leastV l 5 n = 5 ∧ leastV l 6 n = 6 ∧ ∀ i, i < n → (l.getD i default).Copies ≤ 0)
  | 0, _ => .inr ⟨rfl, rfl, fun i h => by omega⟩
  | n + 1, h => by
    obtain ⟨_, _, c1, c2⟩ := oneV_in (goodV_iff.1 hg n (by omega)).1
    simp only [leastV]
    rcases leastV_same hg n (by omega) with ⟨a, b, c⟩ | ⟨a, b, c⟩
    · left
      rw [a] at b c ⊢
      split
      · split <;> exact ⟨rfl, by omega, by omega⟩
      · exact ⟨rfl, by omega, by omega⟩
    · rw [a, b]
      by_cases c0 : 0 < (l.getD n default).Copies
      · left
        rw [if_pos c0, if_pos c0]
        rw [if_pos (show (l.getD n default).Copies < 6 by omega)]
        split
        · exact ⟨rfl, by omega, by omega⟩
        · exact ⟨by omega, by omega, by omega⟩
      · right
        rw [if_neg c0, if_neg c0]
        refine ⟨rfl, rfl, fun i hi => ?_⟩
        by_cases e : i = n
        · subst e; omega
        · exact c i (by omega)

theorem Endangered_same {l : List Volume} (hl : l.length ≤ 1000000) : ∃ o c, o.length ≤ 1000000 ∧ impl_EndangeredVolumes l = some (o, c) ∧ spec_EndangeredVolumes l = some (o, c) := by
  unfold impl_EndangeredVolumes spec_EndangeredVolumes impl_indicesWhere__impl_EndangeredVolumes_c1
  rw [ValidVolumes_is (by omega), l23Ok_is (by omega), Option.bind_some, Option.bind_some]
  cases hv : validV l
  · exact ⟨[], 1, by simp, rfl, rfl⟩
  · obtain ⟨hg, _⟩ := validV_good hv
    have a := while_up (step := impl_EndangeredVolumes_l1 l l (l.length : Int)) (fun i => leastV l 5 i) l.length (r := leastV l 5 l.length) (fun i hi => by
      simp only [impl_EndangeredVolumes_l1, Int.ofNat_lt, hi, decide_true, if_true, ixOk_nat, ck_true, Int.toNat_natCast, wrap_nat1 (show i < 9223372036854775807 by omega), leastV, decide_eq_true_eq]
      split <;> rfl) (by simp [impl_EndangeredVolumes_l1])
    have b := while_up (step := spec_EndangeredVolumes_l1 l) (fun i => leastV l 6 i) l.length (r := leastV l 6 l.length) (fun i hi => by
      simp only [spec_EndangeredVolumes_l1, spec_l00Min, Int.ofNat_lt, hi, decide_true, if_true, ixOk_nat, ck_true, Int.toNat_natCast, wrap_nat1 (show i < 9223372036854775807 by omega), leastV, decide_eq_true_eq]
      by_cases c0 : 0 < (l.getD i default).Copies
      · rw [if_pos c0, if_pos c0]
        by_cases c1 : leastV l 6 i < (l.getD i default).Copies
        · rw [if_pos c1, if_neg (by omega)]; rfl
        · rw [if_neg c1]
          by_cases c2 : (l.getD i default).Copies < leastV l 6 i
          · rw [if_pos c2]; rfl
          · rw [if_neg c2, show (l.getD i default).Copies = leastV l 6 i by omega]; rfl
      · rw [if_neg c0, if_neg c0]) (by simp [spec_EndangeredVolumes_l1])
    have z5 : leastV l 5 0 = 5 := rfl
    have z6 : leastV l 6 0 = 6 := rfl
    simp only [z5] at a
    simp only [z6] at b
    have ka : ∀ m : Int, whileE (impl_indicesWhere__impl_EndangeredVolumes_c1_l1 l m (l.length : Int)) (([] : List Int), 0) = some (keptTo (α := Int) (fun i => (l.getD i default).Copies == m) (fun i => (i : Int)) l.length) := fun m =>
      while_keep (step := impl_indicesWhere__impl_EndangeredVolumes_c1_l1 l m (l.length : Int)) (fun i => (l.getD i default).Copies == m) (fun i => (i : Int)) l.length (fun out i hi ho => by
        simp only [impl_indicesWhere__impl_EndangeredVolumes_c1_l1, impl_EndangeredVolumes_c1, Int.ofNat_lt, hi, decide_true, if_true, ixOk_nat, ck_true, Int.toNat_natCast, Option.bind_some, wrap_nat1 (show i < 9223372036854775807 by omega)]
        rw [appOk_of (by simp; omega), ck_true]
        split <;> rfl) (by simp [impl_indicesWhere__impl_EndangeredVolumes_c1_l1, keptTo])
    have kb : ∀ m : Int, whileE (spec_EndangeredVolumes_l2 l m) (([] : List Int), 0) = some (keptTo (α := Int) (fun i => (l.getD i default).Copies == m) (fun i => (i : Int)) l.length) := fun m =>
      while_keep (step := spec_EndangeredVolumes_l2 l m) (fun i => (l.getD i default).Copies == m) (fun i => (i : Int)) l.length (fun out i hi ho => by
        simp only [spec_EndangeredVolumes_l2, Int.ofNat_lt, hi, decide_true, if_true, ixOk_nat, ck_true, Int.toNat_natCast, Option.bind_some, wrap_nat1 (show i < 9223372036854775807 by omega)]
        rw [appOk_of (by simp; omega), ck_true]
        split <;> rfl) (by simp [spec_EndangeredVolumes_l2, keptTo])
    have same : keptTo (α := Int) (fun i => (l.getD i default).Copies == leastV l 5 l.length) (fun i => (i : Int)) l.length = keptTo (α := Int) (fun i => (l.getD i default).Copies == leastV l 6 l.length) (fun i => (i : Int)) l.length := by
      rcases leastV_same hg l.length (Nat.le_refl _) with ⟨e, _⟩ | ⟨e1, e2, e3⟩
      · rw [e]
      · unfold keptTo
        congr 1
        apply List.filter_congr
        intro i hi
        have := e3 i (by simpa using hi)
        have f1 : ((l.getD i default).Copies == leastV l 5 l.length) = false := by rw [e1, beq_eq_false_iff_ne]; omega
        have f2 : ((l.getD i default).Copies == leastV l 6 l.length) = false := by rw [e2, beq_eq_false_iff_ne]; omega
        rw [f1, f2]
    simp only [Bool.not_true, Bool.false_eq_true, if_false, a, b, Option.bind_some, ka, kb, same]
    exact ⟨_, 0, Nat.le_trans (keptTo_len _ _ _) hl, rfl, rfl⟩

end Go.Proofs.YtdcmnpiafeigaaaGreatDoor

/- What typed forms say: a volume is stored. No condition. -/
namespace Go.Proofs.YtdcmnpiafeigaaaGreatDoor
open Go Go.RowKit
set_option linter.unusedSimpArgs false
set_option linter.unusedVariables false

theorem blV_lt : ∀ a b : List UInt8, Op.bytesLess a b = decide (a < b)
  | [], [] => by simp [Op.bytesLess]
  | _ :: _, [] => by simp [Op.bytesLess]
  | [], _ :: _ => by simp [Op.bytesLess]
  | x :: a, y :: b => by
    simp only [Op.bytesLess, blV_lt a b, List.cons_lt_cons_iff]
    by_cases c1 : x < y <;> by_cases c2 : x = y <;> by_cases c3 : a < b <;> simp [c1, c2, c3]
theorem ltV_irr (a : List UInt8) : ¬ a < a := List.lt_irrefl a
theorem ltV_tr {a b c : List UInt8} (h1 : a < b) (h2 : b < c) : a < c := List.lt_trans h1 h2
theorem ltV_tri (a b : List UInt8) : a < b ∨ a = b ∨ b < a := by
  by_cases h : a < b
  · exact .inl h
  · by_cases h2 : b < a
    · exact .inr (.inr h2)
    · exact .inr (.inl (List.le_antisymm (List.not_lt.1 h2) (List.not_lt.1 h)))

theorem next_lt {l : List Volume} (hg : goodV l = true) {i : Nat} (h0 : 0 < i) (hi : i < l.length) : (l.getD (i - 1) default).Name < (l.getD i default).Name := by
  have := (goodV_iff.1 hg i hi).2 h0
  rw [blV_lt] at this
  exact of_decide_eq_true this

theorem up_lt {l : List Volume} (hg : goodV l = true) : ∀ (d i : Nat), i + d + 1 < l.length → (l.getD i default).Name < (l.getD (i + d + 1) default).Name
  | 0, i, h => by have := next_lt hg (i := i + 1) (by omega) h; simpa using this
  | d + 1, i, h => by
    have h1 := up_lt hg d i (by omega)
    have h2 := next_lt hg (i := i + d + 1 + 1) (by omega) h
    rw [Nat.add_sub_cancel] at h2
    rw [show i + (d + 1) + 1 = i + d + 1 + 1 by omega]
    exact ltV_tr h1 h2

theorem up_lt' {l : List Volume} (hg : goodV l = true) {i j : Nat} (hij : i < j) (hj : j < l.length) : (l.getD i default).Name < (l.getD j default).Name := by
  have := up_lt hg (j - i - 1) i (by omega)
  rw [show i + (j - i - 1) + 1 = j by omega] at this
  exact this

/-- The place of a name. -/
def placed (l : List Volume) (n : List UInt8) (k : Nat) : Prop := k ≤ l.length ∧ (∀ i, i < k → (l.getD i default).Name < n) ∧ ∀ i, k ≤ i → i < l.length → n < (l.getD i default).Name

theorem placed_one {l : List Volume} {n : List UInt8} {a b : Nat} (ha : placed l n a) (hb : placed l n b) : a = b := by
  rcases Nat.lt_trichotomy a b with h | h | h
  · exact absurd (ltV_tr (hb.2.1 a h) (ha.2.2 a (Nat.le_refl _) (by have := hb.1; omega))) (ltV_irr _)
  · exact h
  · exact absurd (ltV_tr (ha.2.1 b h) (hb.2.2 b (Nat.le_refl _) (by have := ha.1; omega))) (ltV_irr _)

theorem insert_loop {l : List Volume} (hl : l.length ≤ 1000000) (hg : goodV l = true) {x : Volume} (hf : findV l x.Name = none) : ∃ k : Nat, whileE (impl_inserted_impl_Volume__impl_volumeName_l1 l x) 0 = some (k : Int) ∧ placed l x.Name k := by
  have hne := findV_none hf
  obtain ⟨y, hy, k, rfl, hk⟩ := while_post (step := impl_inserted_impl_Volume__impl_volumeName_l1 l x) (fun s => ∃ k : Nat, s = (k : Int) ∧ k ≤ l.length ∧ ∀ i, i < k → (l.getD i default).Name < x.Name) (fun r => ∃ k : Nat, r = (k : Int) ∧ placed l x.Name k) (fun s => l.length - s.toNat) (by
    rintro s ⟨k, rfl, h1, h2⟩
    by_cases c : k < l.length
    · have c' : (k : Int) < (l.length : Int) := by omega
      simp only [impl_inserted_impl_Volume__impl_volumeName_l1, impl_volumeName, Option.isSome_some, Option.getD_some, Bool.or_true, ck_true, ixOk_nat, c, decide_true, c', Bool.true_and, Int.toNat_natCast, blV_lt]
      by_cases c2 : (l.getD k default).Name < x.Name
      · left
        rw [if_pos (by simpa using c2), wrap_nat1 (show k < 9223372036854775807 by omega)]
        exact ⟨_, rfl, ⟨k + 1, rfl, c, fun i hi => by
          by_cases e : i = k
          · subst e; exact c2
          · exact h2 i (by omega)⟩, by simp only [Int.toNat_natCast]; omega⟩
      · right
        rw [if_neg (by simpa using c2)]
        refine ⟨_, rfl, k, rfl, h1, h2, fun i hi1 hi2 => ?_⟩
        have hk : x.Name < (l.getD k default).Name := by
          rcases ltV_tri (l.getD k default).Name x.Name with h | h | h
          · exact absurd h c2
          · exact absurd h (hne k c)
          · exact h
        by_cases e : i = k
        · subst e; exact hk
        · exact ltV_tr hk (up_lt' hg (by omega) hi2)
    · right
      have c' : ¬ (k : Int) < (l.length : Int) := by omega
      simp only [impl_inserted_impl_Volume__impl_volumeName_l1, impl_volumeName, Option.isSome_some, Option.getD_some, Bool.or_true, ck_true, c', decide_false, Bool.not_false, Bool.true_or, Bool.false_and, Bool.false_eq_true, if_false]
      exact ⟨_, rfl, k, rfl, h1, h2, fun i a b => by omega⟩) (s := (0 : Int)) ⟨0, rfl, Nat.zero_le _, fun i h => by omega⟩
  exact ⟨k, hy, hk⟩

theorem store_loop {l : List Volume} (hl : l.length ≤ 1000000) (hg : goodV l = true) {x : Volume} (hf : findV l x.Name = none) : ∃ k : Nat, whileE (spec_StoreVolume_l1 l x) (l.length : Int) = some (k : Int) ∧ placed l x.Name k := by
  have hne := findV_none hf
  obtain ⟨y, hy, k, rfl, hk⟩ := while_post (step := spec_StoreVolume_l1 l x) (fun s => ∃ k : Nat, s = (k : Int) ∧ k ≤ l.length ∧ ∀ i, k ≤ i → i < l.length → x.Name < (l.getD i default).Name) (fun r => ∃ k : Nat, r = (k : Int) ∧ placed l x.Name k) (fun s => s.toNat) (by
    rintro s ⟨k, rfl, h1, h2⟩
    by_cases c : 0 < k
    · have c' : (0 : Int) < (k : Int) := by omega
      have w : IntKind.i64.wrap ((k : Int) - 1) = ((k - 1 : Nat) : Int) := by rw [wrap_i64 (by omega) (by omega)]; omega
      have ok : decide (k - 1 < l.length) = true := by simp; omega
      simp only [spec_StoreVolume_l1, w, ixOk_nat, ok, Bool.or_true, ck_true, c', decide_true, Bool.true_and, Int.toNat_natCast, blV_lt]
      have hc := hne (k - 1) (by omega)
      have hcb : ((l.getD (k - 1) default).Name == x.Name) = false := by simpa using hc
      rw [hcb, Bool.or_false]
      by_cases c2 : (l.getD (k - 1) default).Name < x.Name
      · right
        rw [if_neg (by simpa using c2)]
        refine ⟨_, rfl, k, rfl, h1, fun i hi => ?_, h2⟩
        by_cases e : i = k - 1
        · subst e; exact c2
        · exact ltV_tr (up_lt' hg (by omega) (by omega)) c2
      · left
        rw [if_pos (by simpa using c2)]
        refine ⟨_, rfl, ⟨k - 1, rfl, by omega, fun i a b => ?_⟩, by simp only [Int.toNat_natCast]; omega⟩
        by_cases e : i = k - 1
        · subst e
          rcases ltV_tri (l.getD (k - 1) default).Name x.Name with h | h | h
          · exact absurd h c2
          · exact absurd h hc
          · exact h
        · exact h2 i (by omega) b
    · right
      have c0 : k = 0 := by omega
      subst c0
      exact ⟨((0 : Nat) : Int), by simp [spec_StoreVolume_l1, ck], 0, rfl, h1, fun i h => by omega, h2⟩) (s := (l.length : Int)) ⟨l.length, rfl, Nat.le_refl _, fun i a b => by omega⟩
  exact ⟨k, hy, hk⟩

def putV (l : List Volume) (k : Nat) (x : Volume) : List Volume := l.take k ++ x :: l.drop k

theorem putV_len {l : List Volume} {k : Nat} (hk : k ≤ l.length) (x : Volume) : (putV l k x).length = l.length + 1 := by unfold putV; simp; omega

theorem putV_get {l : List Volume} {k : Nat} (hk : k ≤ l.length) (x : Volume) (i : Nat) : (putV l k x).getD i default = if i < k then l.getD i default else if i = k then x else l.getD (i - 1) default := by
  unfold putV
  have hl : (l.take k).length = k := by rw [List.length_take]; omega
  rw [List.getD_eq_getElem?_getD]
  by_cases c : i < k
  · rw [if_pos c, List.getElem?_append_left (by omega), List.getElem?_take, if_pos c, List.getD_eq_getElem?_getD]
  · rw [if_neg c, List.getElem?_append_right (by omega), hl]
    by_cases c2 : i = k
    · subst c2; simp
    · rw [if_neg c2, show i - k = (i - 1 - k) + 1 by omega, List.getElem?_cons_succ, List.getElem?_drop, show k + (i - 1 - k) = i - 1 by omega, List.getD_eq_getElem?_getD]

theorem putV_good {l : List Volume} (hg : goodV l = true) {x : Volume} (hx : oneV x = true) {k : Nat} (hp : placed l x.Name k) : goodV (putV l k x) = true := by
  obtain ⟨h1, h2, h3⟩ := hp
  refine goodV_iff.2 fun i hi => ?_
  rw [putV_len h1] at hi
  rw [putV_get h1, putV_get h1]
  refine ⟨?_, fun h0 => ?_⟩
  · split
    · exact (goodV_iff.1 hg i (by omega)).1
    · split
      · exact hx
      · exact (goodV_iff.1 hg (i - 1) (by omega)).1
  · rw [blV_lt, decide_eq_true_eq]
    by_cases c1 : i < k
    · rw [if_pos (by omega), if_pos c1]
      exact next_lt hg h0 (by omega)
    · rw [if_neg c1]
      by_cases c2 : i = k
      · subst c2
        rw [if_pos (by omega), if_pos rfl]
        exact h2 _ (by omega)
      · rw [if_neg c2]
        by_cases c3 : i - 1 = k
        · rw [if_neg (by omega), if_pos c3]
          exact h3 _ (by omega) (by omega)
        · rw [if_neg (by omega), if_neg c3]
          exact next_lt hg (by omega) (by omega)

theorem Store_same {l : List Volume} (hl : l.length ≤ 1000000) (x : Volume) : ∃ y c, y.length ≤ 1000000 ∧ impl_StoreVolume l x = some (y, c) ∧ spec_StoreVolume l x = some (y, c) ∧ (c = 0 → validV y = true ∧ oneV x = true ∧ ∃ k, k < y.length ∧ y.getD k default = x) := by
  unfold impl_StoreVolume spec_StoreVolume
  rw [ValidVolumes_is (by omega), l23Ok_is (by omega), Option.bind_some, Option.bind_some, isVolume_is, l23One_is]
  cases hv : validV l
  · exact ⟨[], 1, by simp, rfl, rfl, fun h => by cases h⟩
  · obtain ⟨hg, h40⟩ := validV_good hv
    cases hx : oneV x
    · exact ⟨[], 2, by simp, rfl, rfl, fun h => by cases h⟩
    · simp only [Bool.not_true, Bool.false_eq_true, if_false, Option.bind_some]
      rw [findVolume_is (by omega), l23Find_is (by omega), Option.bind_some, Option.bind_some]
      cases hf : findV l x.Name with
      | some j =>
        have : (0 : Int) ≤ (j : Int) := by omega
        simp only [beq_self_eq_true, if_true, this, decide_true]
        exact ⟨[], 4, by simp, rfl, rfl, fun h => by cases h⟩
      | none =>
        simp only [show ((3 : Int) == 0) = false from rfl, show decide ((0 : Int) ≤ -1) = false from rfl, Bool.false_eq_true, if_false]
        by_cases h : l.length = 40
        · rw [if_pos (by simp [h]), if_pos (by simp [h])]
          exact ⟨[], 5, by simp, rfl, rfl, fun h => by cases h⟩
        · rw [if_neg (by simp; omega), if_neg (by simp; omega)]
          obtain ⟨k, e1, p1⟩ := insert_loop hl hg hf
          obtain ⟨k', e2, p2⟩ := store_loop hl hg hf
          obtain rfl := placed_one p1 p2
          have hk := p1.1
          have c1 : cut l (0 : Int) (k : Int) = l.take k := by unfold cut; simp
          have c2 : cut l (k : Int) (l.length : Int) = l.drop k := by unfold cut; simp
          have ins : hIns 48 l (k : Int) ([x] : List Volume) = some (putV l k x) := by
            unfold hIns insOk
            rw [if_pos (by simp; omega)]
            simp [putV]
          have out : (([] : List Volume) ++ l.take k) ++ [x] ++ l.drop k = putV l k x := by unfold putV; simp
          have hlen := putV_len hk x
          refine ⟨putV l k x, 0, by omega, ?_, ?_, fun _ => ⟨?_, trivial, k, by omega, ?_⟩⟩
          · unfold impl_inserted_impl_Volume__impl_volumeName
            rw [e1, Option.bind_some, copyV_is hl, Option.bind_some, ins]; rfl
          · rw [e2, Option.bind_some, cutOk_of (by omega) (by omega) (by omega), ck_true, c1, c2, appOk_of (by simp; omega), ck_true, appOk_of (by simp; omega), ck_true, cutOk_of (by omega) (by omega) (by omega), ck_true, appOk_of (by simp; omega), ck_true, out]
          · unfold validV
            rw [putV_good hg hx p1, hlen]
            simp; omega
          · rw [putV_get hk, if_neg (by omega), if_pos rfl]

end Go.Proofs.YtdcmnpiafeigaaaGreatDoor

