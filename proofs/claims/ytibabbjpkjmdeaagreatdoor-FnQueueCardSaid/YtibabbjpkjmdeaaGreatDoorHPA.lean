/- Plain lemmas, several texts in one. No condition. -/
import Derived.Test.YtibabbjpkjmdeaaGreatDoorEngTD
import Derived.Test.YtibabbjpkjmdeaaGreatDoorQUL
/- Plain loops: the first place, what is kept, what holds of some. No condition. -/
namespace Go.Proofs.YtibabbjpkjmdeaaGreatDoor
open Go Go.RowKit
set_option linter.unusedSimpArgs false
set_option linter.unusedVariables false

/-- The first place where p holds. -/
theorem while_find {ρ : Type} {step : Int → Option (Int ⊕ (Unit ⊕ ρ))} (p : Nat → Bool) (g : Nat → ρ) (n : Nat)
    (hs : ∀ i, i < n → step (i : Int) = some (if p i = true then .inr (.inr (g i)) else .inl ((i + 1 : Nat) : Int))) (he : step (n : Int) = some (.inr (.inl ()))) :
    whileE step 0 = some (match (List.range n).find? p with | some j => .inr (g j) | none => .inl ()) := by
  have key : ∀ m i : Nat, i + m = n → (∀ k, k < i → p k = false) → whileE step (i : Int) = some (match (List.range n).find? p with | some j => .inr (g j) | none => .inl ()) := by
    intro m
    induction m with
    | zero =>
      intro i hi hk
      obtain rfl : i = n := by omega
      rw [whileE_done he]
      have : (List.range i).find? p = none := by
        rw [List.find?_eq_none]
        intro x hx; rw [hk x (by simpa using hx)]; exact Bool.false_ne_true
      rw [this]
    | succ m ih =>
      intro i hi hk
      have hlt : i < n := by omega
      by_cases hp : p i = true
      · rw [whileE_done (by rw [hs i hlt, if_pos hp])]
        have : (List.range n).find? p = some i := by
          rw [List.find?_range_eq_some]
          exact ⟨hp, by simpa using hlt, fun j hj => by simp [hk j hj]⟩
        rw [this]
      · rw [whileE_next (by rw [hs i hlt, if_neg hp])]
        refine ih (i + 1) (by omega) fun k hk2 => ?_
        rcases Nat.lt_or_ge k i with c | c
        · exact hk k c
        · obtain rfl : k = i := by omega
          simpa using hp
  exact key n 0 (by omega) fun k hk => by omega

theorem find_any {α : Type} [Inhabited α] (xs : List α) (f : α → Bool) : ((List.range xs.length).find? fun i => f (xs.getD i default)).isSome = xs.any f := by
  rw [Bool.eq_iff_iff, List.find?_isSome, List.any_eq_true]
  constructor
  · rintro ⟨i, hi, hf⟩
    have hi' : i < xs.length := by simpa using hi
    exact ⟨_, getD_mem hi' default, hf⟩
  · rintro ⟨x, hx, hf⟩
    obtain ⟨i, hi, rfl⟩ := List.getElem_of_mem hx
    exact ⟨i, by simpa using hi, by rw [getD_lt hi]; exact hf⟩

/-- What is kept of a list, in its order. -/
def keptTo {α β : Type} (p : Nat → Bool) (x : Nat → β) (n : Nat) : List β := ((List.range n).filter p).map x

theorem keptTo_succ {β : Type} (p : Nat → Bool) (x : Nat → β) (n : Nat) : keptTo (α := β) p x (n + 1) = if p n = true then keptTo (α := β) p x n ++ [x n] else keptTo (α := β) p x n := by
  unfold keptTo
  rw [List.range_succ, List.filter_append, List.map_append]
  by_cases h : p n = true
  · simp [h]
  · simp [h]

theorem keptTo_len {β : Type} (p : Nat → Bool) (x : Nat → β) (n : Nat) : (keptTo (α := β) p x n).length ≤ n := by
  unfold keptTo
  rw [List.length_map]
  exact Nat.le_trans (List.length_filter_le _ _) (by simp)

theorem while_keep {β ρ : Type} {step : List β × Int → Option ((List β × Int) ⊕ ρ)} (p : Nat → Bool) (x : Nat → β) (n : Nat) {r : ρ}
    (hs : ∀ (out : List β) (i : Nat), i < n → out.length ≤ i → step (out, (i : Int)) = some (.inl (if p i = true then out ++ [x i] else out, ((i + 1 : Nat) : Int))))
    (he : step (keptTo (α := β) p x n, (n : Int)) = some (.inr r)) : whileE step ([], 0) = some r := by
  exact while_up (step := step) (fun i => keptTo (α := β) p x i) n (r := r) (fun i hi => by rw [hs _ i hi (keptTo_len _ _ _), keptTo_succ]) he

end Go.Proofs.YtibabbjpkjmdeaaGreatDoor

/- What typed forms say: names (the program). No condition. -/
namespace Go.Proofs.YtibabbjpkjmdeaaGreatDoor
open Go Go.RowKit
set_option linter.unusedSimpArgs false
set_option linter.unusedVariables false

def okc (first : Bool) (c : UInt8) : Bool := (decide (97 ≤ c.toNat) && decide (c.toNat ≤ 122)) || (!first && ((decide (48 ≤ c.toNat) && decide (c.toNat ≤ 57)) || c.toNat == 45))

def nameB (s : List UInt8) : Bool := decide (1 ≤ s.length) && (decide (s.length ≤ 12) && ((List.range s.length).all fun i => okc (i == 0) (s.getD i 0)))

theorem all_range {n : Nat} {p : Nat → Bool} : ((List.range n).all p = true) ↔ ∀ i, i < n → p i = true := by simp

theorem okc_core (c : UInt8) (i : Nat) : (!((decide ((97 : Int) ≤ (c.toNat : Int))) && (decide ((c.toNat : Int) ≤ 122))) && (((i : Int) == 0) || (!(((decide ((48 : Int) ≤ (c.toNat : Int))) && (decide ((c.toNat : Int) ≤ 57))) || ((c.toNat : Int) == 45))))) = !okc (i == 0) c := by
  have b1 : decide ((97 : Int) ≤ (c.toNat : Int)) = decide (97 ≤ c.toNat) := by rw [decide_eq_decide]; omega
  have b2 : decide ((c.toNat : Int) ≤ 122) = decide (c.toNat ≤ 122) := by rw [decide_eq_decide]; omega
  have b3 : decide ((48 : Int) ≤ (c.toNat : Int)) = decide (48 ≤ c.toNat) := by rw [decide_eq_decide]; omega
  have b4 : decide ((c.toNat : Int) ≤ 57) = decide (c.toNat ≤ 57) := by rw [decide_eq_decide]; omega
  have b5 : ((c.toNat : Int) == 45) = (c.toNat == 45) := by rw [Bool.eq_iff_iff]; simp; omega
  have b6 : ((i : Int) == 0) = (i == 0) := by rw [Bool.eq_iff_iff]; simp
  rw [b1, b2, b3, b4, b5, b6]
  unfold okc
  cases decide (97 ≤ c.toNat) <;> cases decide (c.toNat ≤ 122) <;> cases decide (48 ≤ c.toNat) <;> cases decide (c.toNat ≤ 57) <;> cases (c.toNat == 45) <;> cases (i == 0) <;> rfl

theorem okc_core2 (c : UInt8) : (((!(decide (97 ≤ c.toNat) && decide (c.toNat ≤ 122))) && (!(decide (48 ≤ c.toNat) && decide (c.toNat ≤ 57)))) && (!((c.toNat : Int) == 45))) = !okc false c := by
  have b5 : ((c.toNat : Int) == 45) = (c.toNat == 45) := by rw [Bool.eq_iff_iff]; simp; omega
  rw [b5]
  unfold okc
  cases decide (97 ≤ c.toNat) <;> cases decide (c.toNat ≤ 122) <;> cases decide (48 ≤ c.toNat) <;> cases decide (c.toNat ≤ 57) <;> cases (c.toNat == 45) <;> rfl

theorem impl_IsName_is (s : List UInt8) : impl_IsName s = some (nameB s) := by
  unfold impl_IsName
  by_cases h : ((s.length : Int) < 1) ∨ ((12 : Int) < s.length)
  · have h1 : ((decide ((s.length : Int) < 1)) || (decide ((12 : Int) < (s.length : Int)))) = true := by simpa using h
    have h2 : nameB s = false := by unfold nameB; by_cases a : 1 ≤ s.length <;> by_cases b : s.length ≤ 12 <;> simp [a, b] <;> omega
    simp only [h1, if_true, h2]
  · have h1 : ((decide ((s.length : Int) < 1)) || (decide ((12 : Int) < (s.length : Int)))) = false := by simpa using h
    simp only [h1, Bool.false_eq_true, if_false]
    rw [while_all (step := impl_IsName_l1 s (s.length : Int)) (fun i => okc (i == 0) (s.getD i 0)) s.length ((List.range s.length).all fun i => okc (i == 0) (s.getD i 0)) (yes := .inl ()) (no := .inr false) all_range]
    · have a1 : 1 ≤ s.length := by omega
      have a2 : s.length ≤ 12 := by omega
      unfold nameB
      simp only [a1, a2, decide_true, Bool.true_and]
      cases ((List.range s.length).all fun i => okc (i == 0) (s.getD i 0)) <;> rfl
    · intro i hi
      simp only [impl_IsName_l1, Int.ofNat_lt, hi, decide_true, if_true, ixOk_nat, ck_true, Int.toNat_natCast, wrap_nat1 (show i < 9223372036854775807 by omega)]
      rw [okc_core]
      cases okc (i == 0) (s.getD i 0) <;> rfl
    · simp [impl_IsName_l1]

end Go.Proofs.YtibabbjpkjmdeaaGreatDoor

/- What typed forms say: names (the reference). No condition. -/
namespace Go.Proofs.YtibabbjpkjmdeaaGreatDoor
open Go Go.RowKit
set_option linter.unusedSimpArgs false
set_option linter.unusedVariables false

theorem spec_l01Small_is (c : UInt8) : spec_l01Small c = some (decide (97 ≤ c.toNat) && decide (c.toNat ≤ 122)) := by
  have h1 : ((97 : Int) ≤ (c.toNat : Int)) ↔ 97 ≤ c.toNat := by omega
  have h2 : ((c.toNat : Int) ≤ 122) ↔ c.toNat ≤ 122 := by omega
  simp [spec_l01Small, h1, h2]
theorem spec_l01Digit_is (c : UInt8) : spec_l01Digit c = some (decide (48 ≤ c.toNat) && decide (c.toNat ≤ 57)) := by
  have h1 : ((48 : Int) ≤ (c.toNat : Int)) ↔ 48 ≤ c.toNat := by omega
  have h2 : ((c.toNat : Int) ≤ 57) ↔ c.toNat ≤ 57 := by omega
  simp [spec_l01Digit, h1, h2]

/-- A name: one to twelve letters, digits and dashes, the first one a letter. -/
theorem spec_IsName_is (s : List UInt8) : spec_IsName s = some (nameB s) := by
  unfold spec_IsName
  by_cases h : s.length = 0 ∨ 12 < s.length
  · have h1 : ((s == ([] : List UInt8)) || (decide ((12 : Int) < (s.length : Int)))) = true := by
      rcases h with h | h
      · have : s = [] := List.eq_nil_of_length_eq_zero h
        simp [this]
      · simp; right; omega
    have h2 : nameB s = false := by unfold nameB; by_cases a : 1 ≤ s.length <;> by_cases b : s.length ≤ 12 <;> simp [a, b] <;> omega
    simp only [h1, h2, Bool.not_true, Bool.not_false, Bool.true_or, ck_true, if_true]
  · have h1 : ((s == ([] : List UInt8)) || (decide ((12 : Int) < (s.length : Int)))) = false := by
      rw [Bool.or_eq_false_iff]
      refine ⟨?_, by simp; omega⟩
      rw [beq_eq_false_iff_ne]; rintro rfl; simp at h
    have hi0 : ixOk 0 s.length = true := ixOk_of (by omega) (by omega)
    simp only [h1, hi0, spec_l01Small_is, Option.isSome_some, Option.getD_some, Bool.or_true, ck_true, Bool.false_or]
    by_cases hf : (decide (97 ≤ (s.getD 0 0).toNat) && decide ((s.getD 0 0).toNat ≤ 122)) = true
    · rw [hf]
      simp only [Bool.not_true, Bool.false_eq_true, if_false]
      rw [while_all (step := spec_IsName_l1 s) (fun i => okc false (s.getD i 0)) s.length ((List.range s.length).all fun i => okc (i == 0) (s.getD i 0)) (yes := .inl ()) (no := .inr false)]
      · have a1 : 1 ≤ s.length := by omega
        have a2 : s.length ≤ 12 := by omega
        unfold nameB
        simp only [a1, a2, decide_true, Bool.true_and]
        cases ((List.range s.length).all fun i => okc (i == 0) (s.getD i 0)) <;> rfl
      · rw [all_range]
        refine forall_congr' fun i => forall_congr' fun hi => ?_
        by_cases e : i = 0
        · subst e; simp only [okc, hf, Bool.true_or]
        · have : (i == 0) = false := by simpa using e
          rw [this]
      · intro i hi
        simp only [spec_IsName_l1, Int.ofNat_lt, hi, decide_true, if_true, ixOk_nat, ck_true, Int.toNat_natCast, wrap_nat1 (show i < 9223372036854775807 by omega), spec_l01Small_is, spec_l01Digit_is, Option.bind_some, Option.isSome_some, Option.getD_some, Bool.or_true]
        rw [okc_core2]
        cases okc false (s.getD i 0) <;> rfl
      · simp [spec_IsName_l1]
    · have hf' : (decide (97 ≤ (s.getD 0 0).toNat) && decide ((s.getD 0 0).toNat ≤ 122)) = false := by simpa using hf
      rw [hf']
      have : nameB s = false := by
        unfold nameB
        have : ((List.range s.length).all fun i => okc (i == 0) (s.getD i 0)) = false := by
          cases hq : ((List.range s.length).all fun i => okc (i == 0) (s.getD i 0)) with
          | false => rfl
          | true =>
            have := all_range.1 hq 0 (by omega)
            simp only [okc, hf', beq_self_eq_true, Bool.not_true, Bool.false_and, Bool.or_false, Bool.false_eq_true] at this
        simp only [this, Bool.and_false]
      rw [this]; rfl

end Go.Proofs.YtibabbjpkjmdeaaGreatDoor

/- What typed forms say: requests, which are valid and which are open. No condition. -/
namespace Go.Proofs.YtibabbjpkjmdeaaGreatDoor
open Go Go.RowKit
set_option linter.unusedSimpArgs false
set_option linter.unusedVariables false

def openR (x : Request) (t : Int) : Bool := (decide (x.From ≤ t) && decide (t ≤ x.To)) && decide (x.Done < x.Wanted)

def oneR (x : Request) : Bool := ((((nameB x.Star && (decide (0 ≤ x.From) && decide (x.From ≤ 10000000))) && (decide (x.From ≤ x.To) && decide (x.To ≤ 10000000))) && (decide (1 ≤ x.Wanted) && decide (x.Wanted ≤ 100))) && (decide (0 ≤ x.Done) && decide (x.Done ≤ x.Wanted))) && (decide (1 ≤ x.Priority) && decide (x.Priority ≤ 5))

theorem l22One_is (x : Request) : spec_l22One x = some (oneR x) := by
  unfold spec_l22One oneR
  simp only [spec_l03Time, spec_l00In_is, spec_IsName_is, Option.bind_some, Option.isSome_some, Option.getD_some, Bool.or_true, ck_true]

theorem isRequest_is (x : Request) : impl_isRequest x = some (oneR x) := by
  unfold impl_isRequest oneR
  simp only [impl_ValidTime, impl_in_is, impl_IsName_is, Option.bind_some, Option.isSome_some, Option.getD_some, Bool.or_true, ck_true]
  congr 1
  rw [Bool.eq_iff_iff]
  simp only [Bool.and_eq_true, decide_eq_true_eq]
  constructor
  · rintro ⟨⟨⟨⟨h1, ⟨⟨h2, h3⟩, h4, h5⟩, h6⟩, h7⟩, h8⟩, h9⟩
    exact ⟨⟨⟨⟨⟨h1, h2, h3⟩, h6, h5⟩, h7⟩, h8⟩, h9⟩
  · rintro ⟨⟨⟨⟨⟨h1, h2, h3⟩, h6, h5⟩, h7⟩, h8⟩, h9⟩
    exact ⟨⟨⟨⟨h1, ⟨⟨h2, h3⟩, by omega, h5⟩, h6⟩, h7⟩, h8⟩, h9⟩

theorem oneR_in {x : Request} (h : oneR x = true) : (0 ≤ x.From ∧ x.From ≤ x.To ∧ x.To ≤ 10000000) ∧ (1 ≤ x.Wanted ∧ x.Wanted ≤ 100) ∧ (0 ≤ x.Done ∧ x.Done ≤ x.Wanted) ∧ 1 ≤ x.Priority ∧ x.Priority ≤ 5 := by
  unfold oneR at h
  simp only [Bool.and_eq_true, decide_eq_true_eq] at h
  obtain ⟨⟨⟨⟨⟨_, h1, h2⟩, h3, h4⟩, h5⟩, h6⟩, h7⟩ := h
  exact ⟨⟨h1, h3, h4⟩, h5, h6, h7⟩

def goodR (l : List Request) : Bool := l.all oneR
def validR (l : List Request) : Bool := goodR l && decide (l.length ≤ 30)

theorem goodR_iff {l : List Request} : goodR l = true ↔ ∀ i, i < l.length → oneR (l.getD i default) = true := by
  unfold goodR
  rw [List.all_eq_true]
  constructor
  · intro h i hi; exact h _ (getD_mem hi default)
  · intro h x hx
    obtain ⟨i, hi, rfl⟩ := List.getElem_of_mem hx
    rw [← getD_lt hi default]; exact h i hi

theorem goodR_at {l : List Request} (h : goodR l = true) {i : Nat} (hi : i < l.length) : oneR (l.getD i default) = true := goodR_iff.1 h i hi

theorem l22Ok_is {l : List Request} (hl : l.length ≤ 1099511627776) : spec_l22Ok l = some (validR l) := by
  unfold spec_l22Ok validR
  rw [while_all (step := spec_l22Ok_l1 l) (fun i => oneR (l.getD i default)) l.length (goodR l) (yes := .inl ()) (no := .inr false) goodR_iff (fun i hi => by
    simp only [spec_l22Ok_l1, Int.ofNat_lt, hi, decide_true, if_true, ixOk_nat, ck_true, Int.toNat_natCast, l22One_is, Option.bind_some, wrap_nat1 (show i < 9223372036854775807 by omega)]
    cases oneR (l.getD i default) <;> rfl) (by simp [spec_l22Ok_l1])]
  have e : decide ((l.length : Int) ≤ 30) = decide (l.length ≤ 30) := by rw [Bool.eq_iff_iff]; simp; omega
  simp only [Option.bind_some, ite_b]
  cases goodR l <;> simp [e]

theorem ContainsR_is {l : List Request} (hl : l.length ≤ 1099511627776) : slices_ContainsFunc_impl_Request_impl_Request__impl_ValidRequests_c1 l = some (!goodR l) := by
  unfold slices_ContainsFunc_impl_Request_impl_Request__impl_ValidRequests_c1 slices_IndexFunc_impl_Request_impl_Request__impl_ValidRequests_c1
  rw [while_find (step := slices_IndexFunc_impl_Request_impl_Request__impl_ValidRequests_c1_l1 l (l.length : Int)) (fun i => !oneR (l.getD i default)) (fun i => (i : Int)) l.length (fun i hi => by
    simp only [slices_IndexFunc_impl_Request_impl_Request__impl_ValidRequests_c1_l1, impl_ValidRequests_c1, Int.ofNat_lt, hi, decide_true, if_true, ixOk_nat, ck_true, Int.toNat_natCast, isRequest_is, Option.bind_some, wrap_nat1 (show i < 9223372036854775807 by omega)]
    cases oneR (l.getD i default) <;> rfl) (by simp [slices_IndexFunc_impl_Request_impl_Request__impl_ValidRequests_c1_l1])]
  have hf := find_any l (fun x => !oneR x)
  have hn : (!goodR l) = l.any (fun x => !oneR x) := by unfold goodR; simp [List.any_eq_not_all_not]
  rw [hn, ← hf]
  simp only [Option.bind_some]
  cases hc : (List.range l.length).find? (fun i => !oneR (l.getD i default)) with
  | none => simp
  | some j =>
    have : (0 : Int) ≤ (j : Int) := by omega
    simp [this]

theorem ValidRequests_is {l : List Request} (hl : l.length ≤ 1099511627776) : impl_ValidRequests l = some (validR l) := by
  unfold impl_ValidRequests validR
  have e : decide ((l.length : Int) ≤ 30) = decide (l.length ≤ 30) := by rw [Bool.eq_iff_iff]; simp; omega
  rw [ContainsR_is hl, e]
  simp only [Option.isSome_some, Option.getD_some, Bool.or_true, ck_true, Bool.not_not]
  rw [Bool.and_comm]

def timeB (t : Int) : Bool := decide (0 ≤ t) && decide (t ≤ 10000000)
def codeR (l : List Request) (t : Int) : Int := if validR l = true then (if timeB t = true then 0 else 2) else 1

theorem l22Code_is {l : List Request} (hl : l.length ≤ 1099511627776) (t : Int) : spec_l22Code l t = some (codeR l t) := by
  unfold spec_l22Code spec_l03Time codeR
  rw [l22Ok_is hl, spec_l00In_is]
  change (some (validR l)).bind (fun y_1 => if (!y_1) then some 1 else ((some (timeB t)).bind fun y => some y).bind fun y_3 => if (!y_3) then some 2 else some 0) = _
  simp only [Option.bind_some]
  cases validR l <;> cases timeB t <;> rfl

theorem timed_is {l : List Request} (hl : l.length ≤ 1099511627776) (t : Int) : impl_timed l t = some (codeR l t) := by
  unfold impl_timed impl_ValidTime codeR
  rw [ValidRequests_is hl, impl_in_is]
  change (some (validR l)).bind (fun y_1 => if (!y_1) then some 1 else ((some (timeB t)).bind fun y => some y).bind fun y_3 => if (!y_3) then some 2 else some 0) = _
  simp only [Option.bind_some]
  cases validR l <;> cases timeB t <;> rfl

/-! ### A list that is changed in its place -/

def mapTo {α : Type} (g : α → α) (l : List α) (i : Nat) : List α := (l.take i).map g ++ l.drop i

theorem mapTo_len {α : Type} (g : α → α) (l : List α) (i : Nat) : (mapTo g l i).length = l.length := by
  unfold mapTo; simp; omega

theorem mapTo_at {α : Type} [Inhabited α] (g : α → α) {l : List α} {i : Nat} (hi : i < l.length) : (mapTo g l i).getD i default = l.getD i default := by
  unfold mapTo
  rw [List.getD_eq_getElem?_getD, List.getD_eq_getElem?_getD, List.getElem?_append_right (by simp; omega)]
  have : i - (List.map g (List.take i l)).length = 0 := by simp; omega
  rw [this, List.getElem?_drop]; rfl

theorem mapTo_set {α : Type} [Inhabited α] (g : α → α) {l : List α} {i : Nat} (hi : i < l.length) : (mapTo g l i).set i (g (l.getD i default)) = mapTo g l (i + 1) := by
  unfold mapTo
  have hl : (List.map g (List.take i l)).length = i := by simp; omega
  rw [List.set_append_right _ _ (by omega), hl, Nat.sub_self, List.drop_eq_getElem_cons hi, List.set_cons_zero, List.take_succ_eq_append_getElem hi, List.map_append, List.append_assoc, getD_lt hi]
  rfl

theorem mapTo_same {α : Type} [Inhabited α] (g : α → α) {l : List α} {i : Nat} (hi : i < l.length) (hg : g (l.getD i default) = l.getD i default) : mapTo g l i = mapTo g l (i + 1) := by
  rw [← mapTo_set g hi, hg, ← mapTo_at g hi]
  apply List.ext_getElem?
  intro j
  rw [List.getElem?_set]
  split
  · rename_i e
    subst e
    have : i < (mapTo g l i).length := by rw [mapTo_len]; exact hi
    rw [if_pos this, getD_lt this, List.getElem?_eq_getElem this]
  · rfl

theorem mapTo_all {α : Type} (g : α → α) (l : List α) : mapTo g l l.length = l.map g := by
  unfold mapTo; simp

theorem open_is (x : Request) (t : Int) : spec_l22Open x t = some (openR x t) ∧ impl_Request_open x t = some (openR x t) := ⟨id rfl, id rfl⟩

theorem copyR_is {l : List Request} (hl : l.length ≤ 1000000) : impl_copyOf_impl_Request l = some l := by
  unfold impl_copyOf_impl_Request
  rw [appOk_of (by simp; omega), ck_true]; rfl

theorem kept_filter {α : Type} [Inhabited α] (q : α → Bool) (l : List α) : keptTo (α := α) (fun i => q (l.getD i default)) (fun i => l.getD i default) l.length = l.filter q := by
  have h : (List.range l.length).map (fun i => l.getD i default) = l := by
    apply List.ext_getElem
    · simp
    · intro i h1 h2
      rw [List.getElem_map, List.getElem_range, getD_lt h2]
  unfold keptTo
  conv => rhs; rw [← h]
  rw [List.filter_map]; rfl

def opens (l : List Request) (t : Int) : List Int := keptTo (α := Int) (fun i => openR (l.getD i default) t) (fun i => (i : Int)) l.length

theorem open_loop {l : List Request} (hl : l.length ≤ 1000000) (t : Int) : whileE (impl_indicesWhere__impl_OpenRequests_c1_l1 l t (l.length : Int)) (([] : List Int), 0) = some (opens l t) := by
  exact while_keep (step := impl_indicesWhere__impl_OpenRequests_c1_l1 l t (l.length : Int)) (fun i => openR (l.getD i default) t) (fun i => (i : Int)) l.length (r := opens l t) (fun out i hi ho => by
    simp only [impl_indicesWhere__impl_OpenRequests_c1_l1, impl_OpenRequests_c1, (open_is _ _).2, Int.ofNat_lt, hi, decide_true, if_true, ixOk_nat, ck_true, Int.toNat_natCast, Option.bind_some, wrap_nat1 (show i < 9223372036854775807 by omega)]
    rw [appOk_of (by simp; omega), ck_true]
    split <;> rfl) (by simp [impl_indicesWhere__impl_OpenRequests_c1_l1, opens, keptTo])

theorem OpenRequests_is {l : List Request} (hl : l.length ≤ 1000000) (t : Int) : impl_OpenRequests l t = some (if codeR l t = 0 then (opens l t, 0) else ([], codeR l t)) := by
  unfold impl_OpenRequests impl_indicesWhere__impl_OpenRequests_c1
  rw [timed_is (by omega), Option.bind_some, open_loop hl]
  by_cases hc : codeR l t = 0
  · rw [if_neg (by simp [hc]), if_pos hc]; rfl
  · rw [if_pos (by simp [hc]), if_neg hc]

theorem opens_len (l : List Request) (t : Int) : (opens l t).length = (l.filter (openR · t)).length := by
  rw [← kept_filter (openR · t) l]
  unfold opens keptTo
  rw [List.length_map, List.length_map]

theorem SameRequests_refl {l : List Request} (hl : l.length ≤ 1000000) : spec_SameRequests l l = some true := by
  unfold spec_SameRequests
  rw [if_neg (by simp), while_all (step := spec_SameRequests_l1 l l) (fun _ => true) l.length true (yes := .inl ()) (no := .inr false) (by simp) (fun i hi => by
    simp only [spec_SameRequests_l1, Int.ofNat_lt, hi, decide_true, if_true, ixOk_nat, ck_true, Int.toNat_natCast, wrap_nat1 (show i < 9223372036854775807 by omega), beq_self_eq_true, Bool.and_self, Bool.not_true, Bool.false_eq_true, if_false]) (by simp [spec_SameRequests_l1])]
  rfl

end Go.Proofs.YtibabbjpkjmdeaaGreatDoor

