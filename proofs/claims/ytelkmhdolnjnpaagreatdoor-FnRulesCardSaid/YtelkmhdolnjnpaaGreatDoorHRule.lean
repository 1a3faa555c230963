/- What typed forms say: rules, which are valid, which match facts, and which is the first one. No condition. -/
import Derived.Test.YtelkmhdolnjnpaaGreatDoorHPA
namespace Go.Proofs.YtelkmhdolnjnpaaGreatDoor
open Go Go.RowKit
set_option linter.unusedSimpArgs false
set_option linter.unusedVariables false

def oneRu (r : Rule) : Bool := (nameB r.Class && (((decide (0 ≤ r.FromAmp)) && (decide (r.FromAmp ≤ r.ToAmp))) && (decide (r.ToAmp ≤ 20000)))) && (((decide (0 ≤ r.FromPer)) && (decide (r.FromPer ≤ r.ToPer))) && (decide (r.ToPer ≤ 1000000))) && (decide (0 ≤ r.Shape) && decide (r.Shape ≤ 3))

theorem isRule_is (r : Rule) : impl_isRule r = some (oneRu r) := by
  unfold impl_isRule oneRu
  simp only [impl_in_is, impl_IsName_is, Option.bind_some, Option.isSome_some, Option.getD_some, Bool.or_true, ck_true]

theorem l18Shape_is (n : Int) : spec_l18Shape n = some (decide (1 ≤ n) && decide (n ≤ 3)) := by
  unfold spec_l18Shape; rw [spec_l00In_is]; rfl

theorem l18One_is (r : Rule) : spec_l18One r = some (oneRu r) := by
  unfold spec_l18One oneRu
  simp only [spec_l00In_is, spec_IsName_is, l18Shape_is, Option.bind_some, Option.isSome_some, Option.getD_some, Bool.or_true, ck_true]
  cases nameB r.Class
  · rfl
  · split
    · rename_i h
      congr 1
      simp only [Bool.not_true, Bool.false_or, Bool.and_eq_true, Bool.not_eq_true', beq_eq_false_iff_ne, ne_eq, Bool.and_eq_false_iff, decide_eq_false_iff_not] at h
      symm
      simp only [Bool.true_and, Bool.and_eq_false_iff, decide_eq_false_iff_not]
      right
      omega
    · rename_i h
      congr 1
      simp only [Bool.not_true, Bool.false_or, Bool.and_eq_true, Bool.not_eq_true', beq_eq_false_iff_ne, ne_eq, Bool.and_eq_false_iff, decide_eq_false_iff_not] at h
      rw [Bool.eq_iff_iff]
      simp only [Bool.true_and, Bool.and_eq_true, decide_eq_true_eq]
      omega

structure InRu (r : Rule) : Prop where
  a0 : 0 ≤ r.FromAmp
  a1 : r.FromAmp ≤ r.ToAmp
  a2 : r.ToAmp ≤ 20000
  p0 : 0 ≤ r.FromPer
  p1 : r.FromPer ≤ r.ToPer
  p2 : r.ToPer ≤ 1000000

theorem oneRu_in {r : Rule} (h : oneRu r = true) : InRu r := by
  unfold oneRu at h
  simp only [Bool.and_eq_true, decide_eq_true_eq] at h
  obtain ⟨⟨⟨_, ⟨a, b⟩, c⟩, ⟨d, e⟩, f⟩, _⟩ := h
  exact ⟨a, b, c, d, e, f⟩

def validRu (l : List Rule) : Bool := decide (l.length ≤ 12) && l.all oneRu

theorem validRu_in {l : List Rule} (h : validRu l = true) : l.length ≤ 12 ∧ ∀ r ∈ l, InRu r := by
  unfold validRu at h
  simp only [Bool.and_eq_true, decide_eq_true_eq, List.all_eq_true] at h
  exact ⟨h.1, fun r hr => oneRu_in (h.2 r hr)⟩

theorem contains_is {l : List Rule} (hl : l.length ≤ 1000000) : slices_ContainsFunc_impl_Rule_impl_Rule__impl_ValidRules_c1 l = some (!(l.all oneRu)) := by
  unfold slices_ContainsFunc_impl_Rule_impl_Rule__impl_ValidRules_c1 slices_IndexFunc_impl_Rule_impl_Rule__impl_ValidRules_c1
  rw [while_find (step := slices_IndexFunc_impl_Rule_impl_Rule__impl_ValidRules_c1_l1 l (l.length : Int)) (fun i => !oneRu (l.getD i default)) (fun i => (i : Int)) l.length (fun i hi => by
    simp only [slices_IndexFunc_impl_Rule_impl_Rule__impl_ValidRules_c1_l1, impl_ValidRules_c1, isRule_is, Int.ofNat_lt, hi, decide_true, if_true, ixOk_nat, ck_true, Int.toNat_natCast, Option.bind_some, wrap_nat1 (show i < 9223372036854775807 by omega)]
    cases oneRu (l.getD i default) <;> rfl) (by simp [slices_IndexFunc_impl_Rule_impl_Rule__impl_ValidRules_c1_l1])]
  have := find_any l (fun z => !oneRu z)
  cases hf : (List.range l.length).find? (fun i => !oneRu (l.getD i default)) with
  | none =>
    rw [hf] at this
    have e : l.all oneRu = true := by
      rw [List.all_eq_not_any_not, ← this]; rfl
    rw [e]; rfl
  | some j =>
    rw [hf] at this
    have e : l.all oneRu = false := by
      rw [List.all_eq_not_any_not, ← this]; rfl
    rw [e]
    simp

theorem ValidRules_is {l : List Rule} (hl : l.length ≤ 1000000) : impl_ValidRules l = some (validRu l) := by
  unfold impl_ValidRules validRu
  rw [contains_is hl]
  simp only [Option.isSome_some, Option.getD_some, Bool.or_true, ck_true, Bool.not_not]
  have e : decide ((l.length : Int) ≤ 12) = decide (l.length ≤ 12) := by rw [Bool.eq_iff_iff]; simp; omega
  rw [e]

theorem l18Ok_is {l : List Rule} (hl : l.length ≤ 1000000) : spec_l18Ok l = some (validRu l) := by
  unfold spec_l18Ok validRu
  rw [while_all (step := spec_l18Ok_l1 l) (fun i => oneRu (l.getD i default)) l.length (l.all oneRu) (yes := .inl ()) (no := .inr false) (by
      rw [List.all_eq_true]
      constructor
      · intro h i hi; exact h _ (getD_mem hi default)
      · intro h x hx
        obtain ⟨i, hi, rfl⟩ := List.getElem_of_mem hx
        have := h i hi
        rw [getD_lt hi] at this
        exact this) (fun i hi => by
      simp only [spec_l18Ok_l1, Int.ofNat_lt, hi, decide_true, if_true, ixOk_nat, ck_true, Int.toNat_natCast, l18One_is, Option.bind_some, wrap_nat1 (show i < 9223372036854775807 by omega)]
      cases oneRu (l.getD i default) <;> rfl) (by simp [spec_l18Ok_l1])]
  have e : decide ((l.length : Int) ≤ 12) = decide (l.length ≤ 12) := by rw [Bool.eq_iff_iff]; simp; omega
  simp only [Option.bind_some, e]
  cases l.all oneRu <;> simp

/-! ### Facts -/

def factsB (f : Facts) : Bool := ((decide (0 ≤ f.Amp) && decide (f.Amp ≤ 20000)) && (decide (0 ≤ f.Period) && decide (f.Period ≤ 1000000))) && (decide (1 ≤ f.Shape) && decide (f.Shape ≤ 3))

theorem areFacts_is (f : Facts) : impl_areFacts f = some (factsB f) := by
  unfold impl_areFacts factsB
  simp only [impl_in_is, Option.bind_some, Option.isSome_some, Option.getD_some, Bool.or_true, ck_true]

theorem l18Facts_is (f : Facts) : spec_l18Facts f = some (factsB f) := by
  unfold spec_l18Facts factsB
  simp only [spec_l00In_is, l18Shape_is, Option.bind_some, Option.isSome_some, Option.getD_some, Bool.or_true, ck_true]

def matchB (r : Rule) (f : Facts) : Bool := ((decide (r.FromAmp ≤ f.Amp) && decide (f.Amp ≤ r.ToAmp)) && (decide (r.FromPer ≤ f.Period) && decide (f.Period ≤ r.ToPer))) && ((r.Shape == 0) || (r.Shape == f.Shape))

theorem matches_is (r : Rule) (f : Facts) : impl_Rule_matches r f = some (matchB r f) := by
  unfold impl_Rule_matches matchB
  simp only [impl_in_is, Option.bind_some, Option.isSome_some, Option.getD_some, Bool.or_true, ck_true]

theorem l18Match_is (r : Rule) (f : Facts) : spec_l18Match r f = some (matchB r f) := by
  unfold spec_l18Match matchB
  simp only [spec_l00In_is, Option.bind_some, Option.isSome_some, Option.getD_some, Bool.or_true, ck_true]

def firstR (l : List Rule) (f : Facts) : Option Nat := (List.range l.length).find? fun i => matchB (l.getD i default) f
def firstI (l : List Rule) (f : Facts) : Int := match firstR l f with | some j => (j : Int) | none => -1

theorem first_is {l : List Rule} (hl : l.length ≤ 1000000) (f : Facts) : impl_first l f = some (firstI l f) := by
  unfold impl_first slices_IndexFunc_impl_Rule_impl_Rule__impl_first_c1
  rw [while_find (step := slices_IndexFunc_impl_Rule_impl_Rule__impl_first_c1_l1 l f (l.length : Int)) (fun i => matchB (l.getD i default) f) (fun i => (i : Int)) l.length (fun i hi => by
    simp only [slices_IndexFunc_impl_Rule_impl_Rule__impl_first_c1_l1, impl_first_c1, matches_is, Int.ofNat_lt, hi, decide_true, if_true, ixOk_nat, ck_true, Int.toNat_natCast, Option.bind_some, wrap_nat1 (show i < 9223372036854775807 by omega)]
    split <;> rfl) (by simp [slices_IndexFunc_impl_Rule_impl_Rule__impl_first_c1_l1])]
  show ((((some (match firstR l f with | some j => .inr (j : Int) | none => .inl ()) : Option (Unit ⊕ Int))).bind _).bind _) = _
  unfold firstI
  cases firstR l f <;> rfl

theorem l18First_is {l : List Rule} (hl : l.length ≤ 1000000) (f : Facts) : spec_l18First l f = some (firstI l f) := by
  unfold spec_l18First
  rw [while_find (step := spec_l18First_l1 l f) (fun i => matchB (l.getD i default) f) (fun i => (i : Int)) l.length (fun i hi => by
    simp only [spec_l18First_l1, l18Match_is, Int.ofNat_lt, hi, decide_true, if_true, ixOk_nat, ck_true, Int.toNat_natCast, Option.bind_some, wrap_nat1 (show i < 9223372036854775807 by omega)]
    split <;> rfl) (by simp [spec_l18First_l1])]
  show (((some (match firstR l f with | some j => .inr (j : Int) | none => .inl ()) : Option (Unit ⊕ Int))).bind _) = _
  unfold firstI
  cases firstR l f <;> rfl

/-! ### All rules that match -/

def hitsR (l : List Rule) (f : Facts) : List Int := keptTo (α := Int) (fun i => matchB (l.getD i default) f) (fun i => (i : Int)) l.length

def forR (l : List Rule) (f : Facts) : List Int × Int := if validRu l = true then (if factsB f = true then (hitsR l f, 0) else ([], 2)) else ([], 1)

theorem RulesFor_impl {l : List Rule} (hl : l.length ≤ 1000000) (f : Facts) : impl_RulesFor l f = some (forR l f) := by
  unfold impl_RulesFor forR impl_indicesWhere__impl_RulesFor_c1
  rw [ValidRules_is hl, Option.bind_some]
  cases hv : validRu l
  · rfl
  · rw [areFacts_is]
    simp only [Bool.not_true, Bool.false_eq_true, if_false, if_true, Option.bind_some]
    cases factsB f
    · rfl
    · simp only [Bool.not_true, Bool.false_eq_true, if_false, if_true]
      rw [while_keep (step := impl_indicesWhere__impl_RulesFor_c1_l1 l f (l.length : Int)) (fun i => matchB (l.getD i default) f) (fun i => (i : Int)) l.length (r := hitsR l f) (fun out i hi ho => by
        simp only [impl_indicesWhere__impl_RulesFor_c1_l1, impl_RulesFor_c1, matches_is, Int.ofNat_lt, hi, decide_true, if_true, ixOk_nat, ck_true, Int.toNat_natCast, Option.bind_some, wrap_nat1 (show i < 9223372036854775807 by omega)]
        rw [appOk_of (by simp; omega), ck_true]
        split <;> rfl) (by simp [impl_indicesWhere__impl_RulesFor_c1_l1, hitsR, keptTo])]
      rfl

theorem RulesFor_spec {l : List Rule} (hl : l.length ≤ 1000000) (f : Facts) : spec_RulesFor l f = some (forR l f) := by
  unfold spec_RulesFor forR spec_l18Code
  rw [l18Ok_is hl, Option.bind_some]
  cases hv : validRu l
  · rfl
  · rw [l18Facts_is]
    simp only [Bool.not_true, Bool.false_eq_true, if_false, if_true, Option.bind_some]
    cases factsB f
    · rfl
    · simp only [Bool.not_true, Bool.false_eq_true, if_false, if_true, Option.bind_some, beq_self_eq_true]
      rw [while_keep (step := spec_RulesFor_l1 l f) (fun i => matchB (l.getD i default) f) (fun i => (i : Int)) l.length (r := hitsR l f) (fun out i hi ho => by
        simp only [spec_RulesFor_l1, l18Match_is, Int.ofNat_lt, hi, decide_true, if_true, ixOk_nat, ck_true, Int.toNat_natCast, Option.bind_some, wrap_nat1 (show i < 9223372036854775807 by omega)]
        rw [appOk_of (by simp; omega), ck_true]
        split <;> rfl) (by simp [spec_RulesFor_l1, hitsR, keptTo])]
      rfl

theorem hitsR_len (l : List Rule) (f : Facts) : (hitsR l f).length ≤ l.length := keptTo_len _ _ _

theorem hitsR_mem {l : List Rule} {f : Facts} {x : Int} : x ∈ hitsR l f ↔ ∃ i : Nat, i < l.length ∧ matchB (l.getD i default) f = true ∧ x = (i : Int) := by
  unfold hitsR keptTo
  simp only [List.mem_map, List.mem_filter, List.mem_range]
  constructor
  · rintro ⟨i, ⟨a, b⟩, rfl⟩; exact ⟨i, a, b, rfl⟩
  · rintro ⟨i, a, b, rfl⟩; exact ⟨i, ⟨a, b⟩, rfl⟩

theorem find_filter (p : Nat → Bool) : ∀ l : List Nat, (l.filter p).head? = l.find? p
  | [] => rfl
  | a :: r => by
    by_cases h : p a = true
    · simp [h]
    · have h' : p a = false := by simpa using h
      simp [h', find_filter p r]

theorem hitsR_head (l : List Rule) (f : Facts) : (hitsR l f).head? = (firstR l f).map (fun j : Nat => ((j : Nat) : Int)) := by
  unfold hitsR keptTo firstR
  rw [List.head?_map, find_filter]

end Go.Proofs.YtelkmhdolnjnpaaGreatDoor
