/- Plain lemmas, several texts in one. No condition. -/
import Derived.Test.YtelkmhdolnjnpaaGreatDoorEngTD
import Derived.Test.YtelkmhdolnjnpaaGreatDoorRUL
/- Plain loops: the first place, what is kept, what holds of some. No condition. -/
namespace Go.Proofs.YtelkmhdolnjnpaaGreatDoor
open Go Go.RowKit
set_option linter.unusedSimpArgs false
set_option linter.unusedVariables false

/-- The first place where p holds. -/
theorem while_find {ρ : Type} {step : Int → Option (Int ⊕ (Unit ⊕ ρ))} (p : Nat → Bool) (g : Nat → ρ) (n : Nat)
    (hs : ∀ i, i < n → step (i : Int) = some (if p i = true then .inr (.inr (g i)) else .inl ((i + 1 : Nat) : Int))) (he : step (n : Int) = some (.inr (.inl ()))) :
    whileE step 0 = some (match (List.range n).find? p with | some j => .inr (g j) | none => .inl ()) := by
  have key : ∀ m i : Nat, i + m = n → (∀ k, k < i → p k = false) → whileE step (i : Int) = some (match (List.range n).find? p with | some j => .inr (g j) | none => .inl ()) := by
    intro m
    induction m with
    | zero =>
      intro i hi hk
      obtain rfl : i = n := by omega
      rw [whileE_done he]
      have : (List.range i).find? p = none := by
        rw [List.find?_eq_none]
        intro x hx; rw [hk x (by simpa using hx)]; exact Bool.false_ne_true
      rw [this]
    | succ m ih =>
      intro i hi hk
      have hlt : i < n := by omega
      by_cases hp : p i = true
      · rw [whileE_done (by rw [hs i hlt, if_pos hp])]
        have : (List.range n).find? p = some i := by
          rw [List.find?_range_eq_some]
          exact ⟨hp, by simpa using hlt, fun j hj => by simp [hk j hj]⟩
        rw [this]
      · rw [whileE_next (by rw [hs i hlt, if_neg hp])]
        refine ih (i + 1) (by omega) fun k hk2 => ?_
        rcases Nat.lt_or_ge k i with c | c
        · exact hk k c
        · obtain rfl : k = i := by omega
          simpa using hp
  exact key n 0 (by omega) fun k hk => by omega

theorem find_any {α : Type} [Inhabited α] (xs : List α) (f : α → Bool) : ((List.range xs.length).find? fun i => f (xs.getD i default)).isSome = xs.any f := by
  rw [Bool.eq_iff_iff, List.find?_isSome, List.any_eq_true]
  constructor
  · rintro ⟨i, hi, hf⟩
    have hi' : i < xs.length := by simpa using hi
    exact ⟨_, getD_mem hi' default, hf⟩
  · rintro ⟨x, hx, hf⟩
    obtain ⟨i, hi, rfl⟩ := List.getElem_of_mem hx
    exact ⟨i, by simpa using hi, by rw [getD_lt hi]; exact hf⟩

/-- What is kept of a list, in its order. -/
def keptTo {α β : Type} (p : Nat → Bool) (x : Nat → β) (n : Nat) : List β := ((List.range n).filter p).map x

theorem keptTo_succ {β : Type} (p : Nat → Bool) (x : Nat → β) (n : Nat) : keptTo (α := β) p x (n + 1) = if p n = true then keptTo (α := β) p x n ++ [x n] else keptTo (α := β) p x n := by
  unfold keptTo
  rw [List.range_succ, List.filter_append, List.map_append]
  by_cases h : p n = true
  · simp [h]
  · simp [h]

theorem keptTo_len {β : Type} (p : Nat → Bool) (x : Nat → β) (n : Nat) : (keptTo (α := β) p x n).length ≤ n := by
  unfold keptTo
  rw [List.length_map]
  exact Nat.le_trans (List.length_filter_le _ _) (by simp)

theorem while_keep {β ρ : Type} {step : List β × Int → Option ((List β × Int) ⊕ ρ)} (p : Nat → Bool) (x : Nat → β) (n : Nat) {r : ρ}
    (hs : ∀ (out : List β) (i : Nat), i < n → out.length ≤ i → step (out, (i : Int)) = some (.inl (if p i = true then out ++ [x i] else out, ((i + 1 : Nat) : Int))))
    (he : step (keptTo (α := β) p x n, (n : Int)) = some (.inr r)) : whileE step ([], 0) = some r := by
  exact while_up (step := step) (fun i => keptTo (α := β) p x i) n (r := r) (fun i hi => by rw [hs _ i hi (keptTo_len _ _ _), keptTo_succ]) he

end Go.Proofs.YtelkmhdolnjnpaaGreatDoor

/- What typed forms say: names (the program). No condition. -/
namespace Go.Proofs.YtelkmhdolnjnpaaGreatDoor
open Go Go.RowKit
set_option linter.unusedSimpArgs false
set_option linter.unusedVariables false

def okc (first : Bool) (c : UInt8) : Bool := (decide (97 ≤ c.toNat) && decide (c.toNat ≤ 122)) || (!first && ((decide (48 ≤ c.toNat) && decide (c.toNat ≤ 57)) || c.toNat == 45))

def nameB (s : List UInt8) : Bool := decide (1 ≤ s.length) && (decide (s.length ≤ 12) && ((List.range s.length).all fun i => okc (i == 0) (s.getD i 0)))

theorem all_range {n : Nat} {p : Nat → Bool} : ((List.range n).all p = true) ↔ ∀ i, i < n → p i = true := by simp

theorem okc_core (c : UInt8) (i : Nat) : (!((decide ((97 : Int) ≤ (c.toNat : Int))) && (decide ((c.toNat : Int) ≤ 122))) && (((i : Int) == 0) || (!(((decide ((48 : Int) ≤ (c.toNat : Int))) && (decide ((c.toNat : Int) ≤ 57))) || ((c.toNat : Int) == 45))))) = !okc (i == 0) c := by
  have b1 : decide ((97 : Int) ≤ (c.toNat : Int)) = decide (97 ≤ c.toNat) := by rw [decide_eq_decide]; omega
  have b2 : decide ((c.toNat : Int) ≤ 122) = decide (c.toNat ≤ 122) := by rw [decide_eq_decide]; omega
  have b3 : decide ((48 : Int) ≤ (c.toNat : Int)) = decide (48 ≤ c.toNat) := by rw [decide_eq_decide]; omega
  have b4 : decide ((c.toNat : Int) ≤ 57) = decide (c.toNat ≤ 57) := by rw [decide_eq_decide]; omega
  have b5 : ((c.toNat : Int) == 45) = (c.toNat == 45) := by rw [Bool.eq_iff_iff]; simp; omega
  have b6 : ((i : Int) == 0) = (i == 0) := by rw [Bool.eq_iff_iff]; simp
  rw [b1, b2, b3, b4, b5, b6]
  unfold okc
  cases decide (97 ≤ c.toNat) <;> cases decide (c.toNat ≤ 122) <;> cases decide (48 ≤ c.toNat) <;> cases decide (c.toNat ≤ 57) <;> cases (c.toNat == 45) <;> cases (i == 0) <;> rfl

theorem okc_core2 (c : UInt8) : (((!(decide (97 ≤ c.toNat) && decide (c.toNat ≤ 122))) && (!(decide (48 ≤ c.toNat) && decide (c.toNat ≤ 57)))) && (!((c.toNat : Int) == 45))) = !okc false c := by
  have b5 : ((c.toNat : Int) == 45) = (c.toNat == 45) := by rw [Bool.eq_iff_iff]; simp; omega
  rw [b5]
  unfold okc
  cases decide (97 ≤ c.toNat) <;> cases decide (c.toNat ≤ 122) <;> cases decide (48 ≤ c.toNat) <;> cases decide (c.toNat ≤ 57) <;> cases (c.toNat == 45) <;> rfl

theorem impl_IsName_is (s : List UInt8) : impl_IsName s = some (nameB s) := by
  unfold impl_IsName
  by_cases h : ((s.length : Int) < 1) ∨ ((12 : Int) < s.length)
  · have h1 : ((decide ((s.length : Int) < 1)) || (decide ((12 : Int) < (s.length : Int)))) = true := by simpa using h
    have h2 : nameB s = false := by unfold nameB; by_cases a : 1 ≤ s.length <;> by_cases b : s.length ≤ 12 <;> simp [a, b] <;> omega
    simp only [h1, if_true, h2]
  · have h1 : ((decide ((s.length : Int) < 1)) || (decide ((12 : Int) < (s.length : Int)))) = false := by simpa using h
    simp only [h1, Bool.false_eq_true, if_false]
    rw [while_all (step := impl_IsName_l1 s (s.length : Int)) (fun i => okc (i == 0) (s.getD i 0)) s.length ((List.range s.length).all fun i => okc (i == 0) (s.getD i 0)) (yes := .inl ()) (no := .inr false) all_range]
    · have a1 : 1 ≤ s.length := by omega
      have a2 : s.length ≤ 12 := by omega
      unfold nameB
      simp only [a1, a2, decide_true, Bool.true_and]
      cases ((List.range s.length).all fun i => okc (i == 0) (s.getD i 0)) <;> rfl
    · intro i hi
      simp only [impl_IsName_l1, Int.ofNat_lt, hi, decide_true, if_true, ixOk_nat, ck_true, Int.toNat_natCast, wrap_nat1 (show i < 9223372036854775807 by omega)]
      rw [okc_core]
      cases okc (i == 0) (s.getD i 0) <;> rfl
    · simp [impl_IsName_l1]

end Go.Proofs.YtelkmhdolnjnpaaGreatDoor

/- What typed forms say: names (the reference). No condition. -/
namespace Go.Proofs.YtelkmhdolnjnpaaGreatDoor
open Go Go.RowKit
set_option linter.unusedSimpArgs false
set_option linter.unusedVariables false

theorem spec_l01Small_is (c : UInt8) : spec_l01Small c = some (decide (97 ≤ c.toNat) && decide (c.toNat ≤ 122)) := by
  have h1 : ((97 : Int) ≤ (c.toNat : Int)) ↔ 97 ≤ c.toNat := by omega
  have h2 : ((c.toNat : Int) ≤ 122) ↔ c.toNat ≤ 122 := by omega
  simp [spec_l01Small, h1, h2]
theorem spec_l01Digit_is (c : UInt8) : spec_l01Digit c = some (decide (48 ≤ c.toNat) && decide (c.toNat ≤ 57)) := by
  have h1 : ((48 : Int) ≤ (c.toNat : Int)) ↔ 48 ≤ c.toNat := by omega
  have h2 : ((c.toNat : Int) ≤ 57) ↔ c.toNat ≤ 57 := by omega
  simp [spec_l01Digit, h1, h2]

/-- A name: one to twelve letters, digits and dashes, the first one a letter. -/
theorem spec_IsName_is (s : List UInt8) : spec_IsName s = some (nameB s) := by
  unfold spec_IsName
  by_cases h : s.length = 0 ∨ 12 < s.length
  · have h1 : ((s == ([] : List UInt8)) || (decide ((12 : Int) < (s.length : Int)))) = true := by
      rcases h with h | h
      · have : s = [] := List.eq_nil_of_length_eq_zero h
        simp [this]
      · simp; right; omega
    have h2 : nameB s = false := by unfold nameB; by_cases a : 1 ≤ s.length <;> by_cases b : s.length ≤ 12 <;> simp [a, b] <;> omega
    simp only [h1, h2, Bool.not_true, Bool.not_false, Bool.true_or, ck_true, if_true]
  · have h1 : ((s == ([] : List UInt8)) || (decide ((12 : Int) < (s.length : Int)))) = false := by
      rw [Bool.or_eq_false_iff]
      refine ⟨?_, by simp; omega⟩
      rw [beq_eq_false_iff_ne]; rintro rfl; simp at h
    have hi0 : ixOk 0 s.length = true := ixOk_of (by omega) (by omega)
    simp only [h1, hi0, spec_l01Small_is, Option.isSome_some, Option.getD_some, Bool.or_true, ck_true, Bool.false_or]
    by_cases hf : (decide (97 ≤ (s.getD 0 0).toNat) && decide ((s.getD 0 0).toNat ≤ 122)) = true
    · rw [hf]
      simp only [Bool.not_true, Bool.false_eq_true, if_false]
      rw [while_all (step := spec_IsName_l1 s) (fun i => okc false (s.getD i 0)) s.length ((List.range s.length).all fun i => okc (i == 0) (s.getD i 0)) (yes := .inl ()) (no := .inr false)]
      · have a1 : 1 ≤ s.length := by omega
        have a2 : s.length ≤ 12 := by omega
        unfold nameB
        simp only [a1, a2, decide_true, Bool.true_and]
        cases ((List.range s.length).all fun i => okc (i == 0) (s.getD i 0)) <;> rfl
      · rw [all_range]
        refine forall_congr' fun i => forall_congr' fun hi => ?_
        by_cases e : i = 0
        · subst e; simp only [okc, hf, Bool.true_or]
        · have : (i == 0) = false := by simpa using e
          rw [this]
      · intro i hi
        simp only [spec_IsName_l1, Int.ofNat_lt, hi, decide_true, if_true, ixOk_nat, ck_true, Int.toNat_natCast, wrap_nat1 (show i < 9223372036854775807 by omega), spec_l01Small_is, spec_l01Digit_is, Option.bind_some, Option.isSome_some, Option.getD_some, Bool.or_true]
        rw [okc_core2]
        cases okc false (s.getD i 0) <;> rfl
      · simp [spec_IsName_l1]
    · have hf' : (decide (97 ≤ (s.getD 0 0).toNat) && decide ((s.getD 0 0).toNat ≤ 122)) = false := by simpa using hf
      rw [hf']
      have : nameB s = false := by
        unfold nameB
        have : ((List.range s.length).all fun i => okc (i == 0) (s.getD i 0)) = false := by
          cases hq : ((List.range s.length).all fun i => okc (i == 0) (s.getD i 0)) with
          | false => rfl
          | true =>
            have := all_range.1 hq 0 (by omega)
            simp only [okc, hf', beq_self_eq_true, Bool.not_true, Bool.false_and, Bool.or_false, Bool.false_eq_true] at this
        simp only [this, Bool.and_false]
      rw [this]; rfl

end Go.Proofs.YtelkmhdolnjnpaaGreatDoor

