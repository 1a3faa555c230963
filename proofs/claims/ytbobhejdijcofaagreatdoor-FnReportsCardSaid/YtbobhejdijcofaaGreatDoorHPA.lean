/- Plain lemmas, several texts in one. No condition. -/
import Derived.Test.YtbobhejdijcofaaGreatDoorRPT
import Derived.Test.YtbobhejdijcofaaGreatDoorEngTD
import Derived.Test.YtbobhejdijcofaaGreatDoorEngSH
/- What the helpers of the laws do. No condition. -/
namespace Go.Proofs.YtbobhejdijcofaaGreatDoor
open Go Go.RowKit
set_option linter.unusedSimpArgs false
set_option linter.unusedVariables false

theorem spec_l00In_is (n a b : Int) : spec_l00In n a b = some (decide (a ≤ n) && decide (n ≤ b)) := id rfl
theorem impl_in_is (n a b : Int) : impl_in n a b = some (decide (a ≤ n) && decide (n ≤ b)) := id rfl

end Go.Proofs.YtbobhejdijcofaaGreatDoor

/- Plain loops: the first place, what is kept, what holds of some. No condition. -/
namespace Go.Proofs.YtbobhejdijcofaaGreatDoor
open Go Go.RowKit
set_option linter.unusedSimpArgs false
set_option linter.unusedVariables false

/-- The first place where p holds. -/
theorem while_find {ρ : Type} {step : Int → Option (Int ⊕ (Unit ⊕ ρ))} (p : Nat → Bool) (g : Nat → ρ) (n : Nat)
    (hs : ∀ i, i < n → step (i : Int) = some (if p i = true then .inr (.inr (g i)) else .inl ((i + 1 : Nat) : Int))) (he : step (n : Int) = some (.inr (.inl ()))) :
    whileE step 0 = some (match (List.range n).find? p with | some j => .inr (g j) | none => .inl ()) := by
  have key : ∀ m i : Nat, i + m = n → (∀ k, k < i → p k = false) → whileE step (i : Int) = some (match (List.range n).find? p with | some j => .inr (g j) | none => .inl ()) := by
    intro m
    induction m with
    | zero =>
      intro i hi hk
      obtain rfl : i = n := by omega
      rw [whileE_done he]
      have : (List.range i).find? p = none := by
        rw [List.find?_eq_none]
        intro x hx; rw [hk x (by simpa using hx)]; exact Bool.false_ne_true
      rw [this]
    | succ m ih =>
      intro i hi hk
      have hlt : i < n := by omega
      by_cases hp : p i = true
      · rw [whileE_done (by rw [hs i hlt, if_pos hp])]
        have : (List.range n).find? p = some i := by
          rw [List.find?_range_eq_some]
          exact ⟨hp, by simpa using hlt, fun j hj => by simp [hk j hj]⟩
        rw [this]
      · rw [whileE_next (by rw [hs i hlt, if_neg hp])]
        refine ih (i + 1) (by omega) fun k hk2 => ?_
        rcases Nat.lt_or_ge k i with c | c
        · exact hk k c
        · obtain rfl : k = i := by omega
          simpa using hp
  exact key n 0 (by omega) fun k hk => by omega

theorem find_any {α : Type} [Inhabited α] (xs : List α) (f : α → Bool) : ((List.range xs.length).find? fun i => f (xs.getD i default)).isSome = xs.any f := by
  rw [Bool.eq_iff_iff, List.find?_isSome, List.any_eq_true]
  constructor
  · rintro ⟨i, hi, hf⟩
    have hi' : i < xs.length := by simpa using hi
    exact ⟨_, getD_mem hi' default, hf⟩
  · rintro ⟨x, hx, hf⟩
    obtain ⟨i, hi, rfl⟩ := List.getElem_of_mem hx
    exact ⟨i, by simpa using hi, by rw [getD_lt hi]; exact hf⟩

/-- What is kept of a list, in its order. -/
def keptTo {α β : Type} (p : Nat → Bool) (x : Nat → β) (n : Nat) : List β := ((List.range n).filter p).map x

theorem keptTo_succ {β : Type} (p : Nat → Bool) (x : Nat → β) (n : Nat) : keptTo (α := β) p x (n + 1) = if p n = true then keptTo (α := β) p x n ++ [x n] else keptTo (α := β) p x n := by
  unfold keptTo
  rw [List.range_succ, List.filter_append, List.map_append]
  by_cases h : p n = true
  · simp [h]
  · simp [h]

theorem keptTo_len {β : Type} (p : Nat → Bool) (x : Nat → β) (n : Nat) : (keptTo (α := β) p x n).length ≤ n := by
  unfold keptTo
  rw [List.length_map]
  exact Nat.le_trans (List.length_filter_le _ _) (by simp)

theorem while_keep {β ρ : Type} {step : List β × Int → Option ((List β × Int) ⊕ ρ)} (p : Nat → Bool) (x : Nat → β) (n : Nat) {r : ρ}
    (hs : ∀ (out : List β) (i : Nat), i < n → out.length ≤ i → step (out, (i : Int)) = some (.inl (if p i = true then out ++ [x i] else out, ((i + 1 : Nat) : Int))))
    (he : step (keptTo (α := β) p x n, (n : Int)) = some (.inr r)) : whileE step ([], 0) = some r := by
  exact while_up (step := step) (fun i => keptTo (α := β) p x i) n (r := r) (fun i hi => by rw [hs _ i hi (keptTo_len _ _ _), keptTo_succ]) he

end Go.Proofs.YtbobhejdijcofaaGreatDoor

/- What typed forms say: names (the program). No condition. -/
namespace Go.Proofs.YtbobhejdijcofaaGreatDoor
open Go Go.RowKit
set_option linter.unusedSimpArgs false
set_option linter.unusedVariables false

def okc (first : Bool) (c : UInt8) : Bool := (decide (97 ≤ c.toNat) && decide (c.toNat ≤ 122)) || (!first && ((decide (48 ≤ c.toNat) && decide (c.toNat ≤ 57)) || c.toNat == 45))

def nameB (s : List UInt8) : Bool := decide (1 ≤ s.length) && (decide (s.length ≤ 12) && ((List.range s.length).all fun i => okc (i == 0) (s.getD i 0)))

theorem all_range {n : Nat} {p : Nat → Bool} : ((List.range n).all p = true) ↔ ∀ i, i < n → p i = true := by simp

theorem okc_core (c : UInt8) (i : Nat) : (!((decide ((97 : Int) ≤ (c.toNat : Int))) && (decide ((c.toNat : Int) ≤ 122))) && (((i : Int) == 0) || (!(((decide ((48 : Int) ≤ (c.toNat : Int))) && (decide ((c.toNat : Int) ≤ 57))) || ((c.toNat : Int) == 45))))) = !okc (i == 0) c := by
  have b1 : decide ((97 : Int) ≤ (c.toNat : Int)) = decide (97 ≤ c.toNat) := by rw [decide_eq_decide]; omega
  have b2 : decide ((c.toNat : Int) ≤ 122) = decide (c.toNat ≤ 122) := by rw [decide_eq_decide]; omega
  have b3 : decide ((48 : Int) ≤ (c.toNat : Int)) = decide (48 ≤ c.toNat) := by rw [decide_eq_decide]; omega
  have b4 : decide ((c.toNat : Int) ≤ 57) = decide (c.toNat ≤ 57) := by rw [decide_eq_decide]; omega
  have b5 : ((c.toNat : Int) == 45) = (c.toNat == 45) := by rw [Bool.eq_iff_iff]; simp; omega
  have b6 : ((i : Int) == 0) = (i == 0) := by rw [Bool.eq_iff_iff]; simp
  rw [b1, b2, b3, b4, b5, b6]
  unfold okc
  cases decide (97 ≤ c.toNat) <;> cases decide (c.toNat ≤ 122) <;> cases decide (48 ≤ c.toNat) <;> cases decide (c.toNat ≤ 57) <;> cases (c.toNat == 45) <;> cases (i == 0) <;> rfl

theorem okc_core2 (c : UInt8) : (((!(decide (97 ≤ c.toNat) && decide (c.toNat ≤ 122))) && (!(decide (48 ≤ c.toNat) && decide (c.toNat ≤ 57)))) && (!((c.toNat : Int) == 45))) = !okc false c := by
  have b5 : ((c.toNat : Int) == 45) = (c.toNat == 45) := by rw [Bool.eq_iff_iff]; simp; omega
  rw [b5]
  unfold okc
  cases decide (97 ≤ c.toNat) <;> cases decide (c.toNat ≤ 122) <;> cases decide (48 ≤ c.toNat) <;> cases decide (c.toNat ≤ 57) <;> cases (c.toNat == 45) <;> rfl

theorem impl_IsName_is (s : List UInt8) : impl_IsName s = some (nameB s) := by
  unfold impl_IsName
  by_cases h : ((s.length : Int) < 1) ∨ ((12 : Int) < s.length)
  · have h1 : ((decide ((s.length : Int) < 1)) || (decide ((12 : Int) < (s.length : Int)))) = true := by simpa using h
    have h2 : nameB s = false := by unfold nameB; by_cases a : 1 ≤ s.length <;> by_cases b : s.length ≤ 12 <;> simp [a, b] <;> omega
    simp only [h1, if_true, h2]
  · have h1 : ((decide ((s.length : Int) < 1)) || (decide ((12 : Int) < (s.length : Int)))) = false := by simpa using h
    simp only [h1, Bool.false_eq_true, if_false]
    rw [while_all (step := impl_IsName_l1 s (s.length : Int)) (fun i => okc (i == 0) (s.getD i 0)) s.length ((List.range s.length).all fun i => okc (i == 0) (s.getD i 0)) (yes := .inl ()) (no := .inr false) all_range]
    · have a1 : 1 ≤ s.length := by omega
      have a2 : s.length ≤ 12 := by omega
      unfold nameB
      simp only [a1, a2, decide_true, Bool.true_and]
      cases ((List.range s.length).all fun i => okc (i == 0) (s.getD i 0)) <;> rfl
    · intro i hi
      simp only [impl_IsName_l1, Int.ofNat_lt, hi, decide_true, if_true, ixOk_nat, ck_true, Int.toNat_natCast, wrap_nat1 (show i < 9223372036854775807 by omega)]
      rw [okc_core]
      cases okc (i == 0) (s.getD i 0) <;> rfl
    · simp [impl_IsName_l1]

end Go.Proofs.YtbobhejdijcofaaGreatDoor

/- What typed forms say: names (the reference). No condition. -/
namespace Go.Proofs.YtbobhejdijcofaaGreatDoor
open Go Go.RowKit
set_option linter.unusedSimpArgs false
set_option linter.unusedVariables false

theorem spec_l01Small_is (c : UInt8) : spec_l01Small c = some (decide (97 ≤ c.toNat) && decide (c.toNat ≤ 122)) := by
  have h1 : ((97 : Int) ≤ (c.toNat : Int)) ↔ 97 ≤ c.toNat := by omega
  have h2 : ((c.toNat : Int) ≤ 122) ↔ c.toNat ≤ 122 := by omega
  simp [spec_l01Small, h1, h2]
theorem spec_l01Digit_is (c : UInt8) : spec_l01Digit c = some (decide (48 ≤ c.toNat) && decide (c.toNat ≤ 57)) := by
  have h1 : ((48 : Int) ≤ (c.toNat : Int)) ↔ 48 ≤ c.toNat := by omega
  have h2 : ((c.toNat : Int) ≤ 57) ↔ c.toNat ≤ 57 := by omega
  simp [spec_l01Digit, h1, h2]

/-- A name: one to twelve letters, digits and dashes, the first one a letter. -/
theorem spec_IsName_is (s : List UInt8) : spec_IsName s = some (nameB s) := by
  unfold spec_IsName
  by_cases h : s.length = 0 ∨ 12 < s.length
  · have h1 : ((s == ([] : List UInt8)) || (decide ((12 : Int) < (s.length : Int)))) = true := by
      rcases h with h | h
      · have : s = [] := List.eq_nil_of_length_eq_zero h
        simp [this]
      · simp; right; omega
    have h2 : nameB s = false := by unfold nameB; by_cases a : 1 ≤ s.length <;> by_cases b : s.length ≤ 12 <;> simp [a, b] <;> omega
    simp only [h1, h2, Bool.not_true, Bool.not_false, Bool.true_or, ck_true, if_true]
  · have h1 : ((s == ([] : List UInt8)) || (decide ((12 : Int) < (s.length : Int)))) = false := by
      rw [Bool.or_eq_false_iff]
      refine ⟨?_, by simp; omega⟩
      rw [beq_eq_false_iff_ne]; rintro rfl; simp at h
    have hi0 : ixOk 0 s.length = true := ixOk_of (by omega) (by omega)
    simp only [h1, hi0, spec_l01Small_is, Option.isSome_some, Option.getD_some, Bool.or_true, ck_true, Bool.false_or]
    by_cases hf : (decide (97 ≤ (s.getD 0 0).toNat) && decide ((s.getD 0 0).toNat ≤ 122)) = true
    · rw [hf]
      simp only [Bool.not_true, Bool.false_eq_true, if_false]
      rw [while_all (step := spec_IsName_l1 s) (fun i => okc false (s.getD i 0)) s.length ((List.range s.length).all fun i => okc (i == 0) (s.getD i 0)) (yes := .inl ()) (no := .inr false)]
      · have a1 : 1 ≤ s.length := by omega
        have a2 : s.length ≤ 12 := by omega
        unfold nameB
        simp only [a1, a2, decide_true, Bool.true_and]
        cases ((List.range s.length).all fun i => okc (i == 0) (s.getD i 0)) <;> rfl
      · rw [all_range]
        refine forall_congr' fun i => forall_congr' fun hi => ?_
        by_cases e : i = 0
        · subst e; simp only [okc, hf, Bool.true_or]
        · have : (i == 0) = false := by simpa using e
          rw [this]
      · intro i hi
        simp only [spec_IsName_l1, Int.ofNat_lt, hi, decide_true, if_true, ixOk_nat, ck_true, Int.toNat_natCast, wrap_nat1 (show i < 9223372036854775807 by omega), spec_l01Small_is, spec_l01Digit_is, Option.bind_some, Option.isSome_some, Option.getD_some, Bool.or_true]
        rw [okc_core2]
        cases okc false (s.getD i 0) <;> rfl
      · simp [spec_IsName_l1]
    · have hf' : (decide (97 ≤ (s.getD 0 0).toNat) && decide ((s.getD 0 0).toNat ≤ 122)) = false := by simpa using hf
      rw [hf']
      have : nameB s = false := by
        unfold nameB
        have : ((List.range s.length).all fun i => okc (i == 0) (s.getD i 0)) = false := by
          cases hq : ((List.range s.length).all fun i => okc (i == 0) (s.getD i 0)) with
          | false => rfl
          | true =>
            have := all_range.1 hq 0 (by omega)
            simp only [okc, hf', beq_self_eq_true, Bool.not_true, Bool.false_and, Bool.or_false, Bool.false_eq_true] at this
        simp only [this, Bool.and_false]
      rw [this]; rfl

end Go.Proofs.YtbobhejdijcofaaGreatDoor

/- What typed forms say: which lists of estimates are valid. No condition. -/
namespace Go.Proofs.YtbobhejdijcofaaGreatDoor
open Go Go.RowKit
set_option linter.unusedSimpArgs false
set_option linter.unusedVariables false

theorem bytes_cmp : ∀ (a b : List UInt8), (decide (Lib.compareBytes a b < 0) = Op.bytesLess a b) ∧ ((Lib.compareBytes a b == 0) = (a == b))
  | [], [] => by simp [Lib.compareBytes, Op.bytesLess]
  | [], _ :: _ => by simp [Lib.compareBytes, Op.bytesLess]
  | _ :: _, [] => by simp [Lib.compareBytes, Op.bytesLess]
  | x :: a, y :: b => by
    obtain ⟨h1, h2⟩ := bytes_cmp a b
    by_cases e : x = y
    · subst e
      have hx : ¬ x < x := UInt8.lt_irrefl x
      simp only [Lib.compareBytes, Op.bytesLess, hx, if_false, decide_false, Bool.false_or, beq_self_eq_true, Bool.true_and]
      refine ⟨h1, ?_⟩
      rw [h2, Bool.eq_iff_iff]; simp
    · by_cases hlt : x < y
      · simp [Lib.compareBytes, Op.bytesLess, hlt, e]
      · have hgt : y < x := UInt8.lt_of_le_of_ne (UInt8.not_lt.1 hlt) (Ne.symm e)
        simp [Lib.compareBytes, Op.bytesLess, hlt, hgt, e]

theorem Compare_is (a b : List UInt8) : strings_Compare a b = some (Lib.compareBytes a b) := id rfl

theorem CompareInt_is (a b : Int) : cmp_Compare_int64 a b = some (if a < b then -1 else if b < a then 1 else 0) := by
  unfold cmp_Compare_int64 cmp_isNaN_int64
  by_cases h1 : a < b
  · simp [h1]
  · by_cases h2 : b < a
    · simp [h1, h2]
    · simp [h1, h2]

theorem Or_is (a b c : Int) : cmp_Or_int [a, b, c] = some (if a ≠ 0 then a else if b ≠ 0 then b else c) := by
  unfold cmp_Or_int
  have hs := while_find (step := cmp_Or_int_l1 0 [a, b, c] (([a, b, c] : List Int).length : Int)) (fun i => !(([a, b, c] : List Int).getD i default == 0)) (fun i => ([a, b, c] : List Int).getD i default) 3
    (fun i hi => by
      have h1 : ixOk (i : Int) ([a, b, c] : List Int).length = true := by rw [ixOk_nat]; simpa using hi
      have h2 : decide ((i : Int) < (([a, b, c] : List Int).length : Int)) = true := by simp; omega
      simp only [cmp_Or_int_l1, h1, h2, ck_true, if_true, Int.toNat_natCast, wrap_nat1 (show i < 9223372036854775807 by omega)]
      cases (!(([a, b, c] : List Int).getD i default == 0)) <;> rfl)
    (by simp [cmp_Or_int_l1])
  rw [hs]
  by_cases ha : a = 0
  · by_cases hb : b = 0
    · by_cases hc : c = 0
      · subst ha; subst hb; subst hc; rfl
      · subst ha; subst hb
        have : (List.range 3).find? (fun i => !(([0, 0, c] : List Int).getD i default == 0)) = some 2 := by
          rw [List.find?_range_eq_some]
          refine ⟨by simpa using hc, by simp, fun j hj => ?_⟩
          match j, hj with
          | 0, _ => rfl
          | 1, _ => rfl
        rw [this]; simp
    · subst ha
      have : (List.range 3).find? (fun i => !(([0, b, c] : List Int).getD i default == 0)) = some 1 := by
        rw [List.find?_range_eq_some]
        refine ⟨by simpa using hb, by simp, fun j hj => ?_⟩
        match j, hj with
        | 0, _ => rfl
      rw [this]; simp [hb]
  · have : (List.range 3).find? (fun i => !(([a, b, c] : List Int).getD i default == 0)) = some 0 := by
      rw [List.find?_range_eq_some]
      exact ⟨by simpa using ha, by simp, fun j hj => by omega⟩
    rw [this]; simp [ha]

def beforeE (a b : Estimate) : Bool := if a.Time = b.Time then (if a.Star = b.Star then Op.bytesLess a.Observer b.Observer else Op.bytesLess a.Star b.Star) else decide (a.Time < b.Time)

theorem Before_is (a b : Estimate) : spec_l06Before a b = some (beforeE a b) := by
  unfold spec_l06Before beforeE
  by_cases h1 : a.Time = b.Time
  · by_cases h2 : a.Star = b.Star
    · simp [h1, h2]
    · simp [h1, h2]
  · simp [h1]

theorem compareE_is (a b : Estimate) : ∃ c, impl_compareEstimates a b = some c ∧ decide (c < 0) = beforeE a b := by
  unfold impl_compareEstimates
  simp only [CompareInt_is, Compare_is, Or_is, Option.bind_some]
  refine ⟨_, rfl, ?_⟩
  obtain ⟨s1, s2⟩ := bytes_cmp a.Star b.Star
  obtain ⟨o1, o2⟩ := bytes_cmp a.Observer b.Observer
  unfold beforeE
  by_cases h1 : a.Time = b.Time
  · simp only [h1, Int.lt_irrefl, if_false, ne_eq, not_true_eq_false, if_true]
    by_cases h2 : a.Star = b.Star
    · have e : Lib.compareBytes a.Star b.Star = 0 := by
        have : (a.Star == b.Star) = true := by simpa using h2
        rw [this] at s2; simpa using s2
      simp only [e, not_true_eq_false, if_false, h2, if_true]
      have e2 : Lib.compareBytes b.Star b.Star = 0 := by rw [← h2] at e ⊢; exact e
      simp [e2, o1]
    · have e : ¬ Lib.compareBytes a.Star b.Star = 0 := by
        have : (a.Star == b.Star) = false := by simpa using h2
        rw [this] at s2; simpa using s2
      simp [e, h2, s1]
  · by_cases h2 : a.Time < b.Time
    · simp [h1, h2]
    · have h3 : b.Time < a.Time := by omega
      simp [h1, h2, h3]

def oneE (e : Estimate) : Bool := (((decide (0 ≤ e.Time) && decide (e.Time ≤ 10000000)) && nameB e.Star) && nameB e.Observer) && (decide (-2000 ≤ e.Mag) && decide (e.Mag ≤ 20000))

theorem l06One_is (e : Estimate) : spec_l06One e = some (oneE e) := by
  unfold spec_l06One oneE
  simp only [spec_l06Time, spec_l02Mag, spec_l00In_is, spec_IsName_is, Option.bind_some, Option.isSome_some, Option.getD_some, Bool.or_true, ck_true]

theorem isEstimate_is (e : Estimate) : impl_isEstimate e = some (oneE e) := by
  unfold impl_isEstimate oneE
  simp only [impl_ValidTime, impl_ValidMag, impl_in_is, impl_IsName_is, Option.bind_some, Option.isSome_some, Option.getD_some, Bool.or_true, ck_true]

def okE (l : List Estimate) (i : Nat) : Bool := oneE (l.getD i default) && !(decide (0 < i) && !beforeE (l.getD (i - 1) default) (l.getD i default))
def goodE (l : List Estimate) : Bool := (List.range l.length).all (okE l)

theorem l06_step {l : List Estimate} (hl : l.length ≤ 1099511627776) {i : Nat} (hi : i < l.length) : spec_l06Ok_l1 l (i : Int) = some (if okE l i = true then .inl ((i + 1 : Nat) : Int) else .inr (.inr false)) := by
  simp only [spec_l06Ok_l1, ixOk_nat, hi, decide_true, ck_true, Int.ofNat_lt, if_true, Int.toNat_natCast, wrap_nat1 (show i < 9223372036854775807 by omega), l06One_is, Before_is, Option.bind_some, Option.isSome_some, Option.getD_some, Bool.or_true]
  unfold okE
  by_cases h0 : 0 < i
  · have e0 : decide ((0 : Int) < (i : Int)) = true := by simpa using h0
    have e1 : decide (0 < i) = true := by simpa using h0
    have w1 : IntKind.i64.wrap ((i : Int) - 1) = ((i - 1 : Nat) : Int) := by rw [wrap_i64 (by omega) (by omega)]; omega
    have ok1 : ixOk ((i - 1 : Nat) : Int) l.length = true := by rw [ixOk_nat]; simp; omega
    simp only [e0, e1, w1, ok1, Bool.or_true, ck_true, Bool.true_and, Int.toNat_natCast]
    generalize oneE (l.getD i default) = A
    generalize beforeE (l.getD (i - 1) default) (l.getD i default) = B
    cases A <;> cases B <;> rfl
  · have e0 : decide ((0 : Int) < (i : Int)) = false := by simpa using h0
    have e1 : decide (0 < i) = false := by simpa using h0
    simp only [e0, e1, Bool.false_and, Bool.and_false, Bool.not_false, Bool.true_or, ck_true, Bool.or_false, Bool.and_true]
    generalize oneE (l.getD i default) = A
    cases A <;> rfl

theorem l06Ok_is {l : List Estimate} (hl : l.length ≤ 1099511627776) : spec_l06Ok l = some (goodE l && decide (l.length ≤ 100)) := by
  unfold spec_l06Ok
  rw [while_all (step := spec_l06Ok_l1 l) (okE l) l.length (goodE l) (yes := .inl ()) (no := .inr false) (by unfold goodE; simp) (fun i hi => l06_step hl hi) (by simp [spec_l06Ok_l1])]
  have e : decide ((l.length : Int) ≤ 100) = decide (l.length ≤ 100) := by rw [Bool.eq_iff_iff]; simp; omega
  simp only [Option.bind_some, ite_b]
  cases goodE l <;> simp [e]

theorem valid_step {l : List Estimate} (hl : l.length ≤ 1099511627776) {i : Nat} (hi : i < l.length) : impl_ValidEstimates_l1 l l (l.length : Int) (i : Int) = some (if okE l i = true then .inl ((i + 1 : Nat) : Int) else .inr (.inr false)) := by
  obtain ⟨c, hc, hc2⟩ := compareE_is (l.getD (i - 1) default) (l.getD i default)
  simp only [impl_ValidEstimates_l1, ixOk_nat, hi, decide_true, ck_true, Int.ofNat_lt, if_true, Int.toNat_natCast, wrap_nat1 (show i < 9223372036854775807 by omega), isEstimate_is, Option.bind_some, Option.isSome_some, Option.getD_some, Bool.or_true]
  unfold okE
  by_cases h0 : 0 < i
  · have e0 : decide ((0 : Int) < (i : Int)) = true := by simpa using h0
    have e1 : decide (0 < i) = true := by simpa using h0
    have w1 : IntKind.i64.wrap ((i : Int) - 1) = ((i - 1 : Nat) : Int) := by rw [wrap_i64 (by omega) (by omega)]; omega
    have ok1 : ixOk ((i - 1 : Nat) : Int) l.length = true := by rw [ixOk_nat]; simp; omega
    simp only [e0, e1, w1, ok1, Bool.or_true, ck_true, Bool.true_and, Int.toNat_natCast, hc, Option.isSome_some, Option.getD_some]
    have e2 : decide (0 ≤ c) = !beforeE (l.getD (i - 1) default) (l.getD i default) := by
      rw [← hc2, ← decide_not]; congr 1; rw [Int.not_lt]
    rw [e2]
    generalize oneE (l.getD i default) = A
    generalize beforeE (l.getD (i - 1) default) (l.getD i default) = B
    cases A <;> cases B <;> rfl
  · have e0 : decide ((0 : Int) < (i : Int)) = false := by simpa using h0
    have e1 : decide (0 < i) = false := by simpa using h0
    simp only [e0, e1, Bool.false_and, Bool.and_false, Bool.not_false, Bool.true_or, ck_true, Bool.or_false, Bool.and_true]
    generalize oneE (l.getD i default) = A
    cases A <;> rfl

theorem ValidEstimates_is {l : List Estimate} (hl : l.length ≤ 1099511627776) : impl_ValidEstimates l = some (goodE l && decide (l.length ≤ 100)) := by
  unfold impl_ValidEstimates
  by_cases h : 100 < (l.length : Int)
  · have e : decide (l.length ≤ 100) = false := by simp; omega
    simp [h, e]
  · have e : decide (l.length ≤ 100) = true := by simp; omega
    simp only [h, decide_false, Bool.false_eq_true, if_false]
    rw [while_all (step := impl_ValidEstimates_l1 l l (l.length : Int)) (okE l) l.length (goodE l) (yes := .inl ()) (no := .inr false) (by unfold goodE; simp) (fun i hi => valid_step hl hi) (by simp [impl_ValidEstimates_l1])]
    simp only [Option.bind_some, ite_b, e]
    cases goodE l <;> rfl

end Go.Proofs.YtbobhejdijcofaaGreatDoor

/- What typed forms say: valid light curves. No condition. -/
namespace Go.Proofs.YtbobhejdijcofaaGreatDoor
open Go Go.RowKit
set_option linter.unusedSimpArgs false
set_option linter.unusedVariables false

def okP (c : List Point) (i : Nat) : Bool :=
  ((decide (0 ≤ (c.getD i default).Time) && decide ((c.getD i default).Time ≤ 10000000)) && (decide (-2000 ≤ (c.getD i default).Mag) && decide ((c.getD i default).Mag ≤ 20000))) &&
  !(decide (0 < i) && decide ((c.getD i default).Time ≤ (c.getD (i - 1) default).Time))
def goodP (c : List Point) : Bool := (List.range c.length).all (okP c)

theorem l06Time_is (n : Int) : spec_l06Time n = some (decide (0 ≤ n) && decide (n ≤ 10000000)) := id rfl
theorem l02Mag_is (n : Int) : spec_l02Mag n = some (decide (-2000 ≤ n) && decide (n ≤ 20000)) := id rfl
theorem l08_step {c : List Point} (hl : c.length ≤ 1099511627776) {i : Nat} (hi : i < c.length) : spec_l08Ok_l1 c (i : Int) = some (if okP c i = true then .inl ((i + 1 : Nat) : Int) else .inr (.inr false)) := by
  simp only [spec_l08Ok_l1, ite_b, ixOk_nat, hi, decide_true, ck_true, Int.ofNat_lt, cond_true, Int.toNat_natCast, wrap_nat1 (show i < 9223372036854775807 by omega), l06Time_is, l02Mag_is, Option.bind_some, Option.isSome_some, Option.getD_some, Bool.or_true]
  unfold okP
  generalize (decide (0 ≤ (c.getD i default).Time) && decide ((c.getD i default).Time ≤ 10000000)) = A
  generalize (decide (-2000 ≤ (c.getD i default).Mag) && decide ((c.getD i default).Mag ≤ 20000)) = B
  by_cases h0 : 0 < i
  · have e0 : decide ((0 : Int) < (i : Int)) = true := by simpa using h0
    have e1 : decide (0 < i) = true := by simpa using h0
    have w1 : IntKind.i64.wrap ((i : Int) - 1) = ((i - 1 : Nat) : Int) := by rw [wrap_i64 (by omega) (by omega)]; omega
    have ok1 : ixOk ((i - 1 : Nat) : Int) c.length = true := by rw [ixOk_nat]; simp; omega
    simp only [e0, e1, w1, ok1, Bool.or_true, ck_true, Bool.true_and, Int.toNat_natCast]
    generalize decide ((c.getD i default).Time ≤ (c.getD (i - 1) default).Time) = D
    cases A <;> cases B <;> cases D <;> rfl
  · have e0 : decide ((0 : Int) < (i : Int)) = false := by simpa using h0
    have e1 : decide (0 < i) = false := by simpa using h0
    simp only [e0, e1, Bool.false_and, Bool.and_false, Bool.not_false, Bool.true_or, ck_true]
    cases A <;> cases B <;> rfl

theorem l08Ok_is {c : List Point} (hl : c.length ≤ 1099511627776) : spec_l08Ok c = some (goodP c && decide (c.length ≤ 100)) := by
  unfold spec_l08Ok
  rw [while_all (step := spec_l08Ok_l1 c) (okP c) c.length (goodP c) (yes := .inl ()) (no := .inr false) (by unfold goodP; simp) (fun i hi => l08_step hl hi) (by simp [spec_l08Ok_l1])]
  have e : decide ((c.length : Int) ≤ 100) = decide (c.length ≤ 100) := by rw [Bool.eq_iff_iff]; simp; omega
  simp only [Option.bind_some, ite_b]
  cases goodP c <;> simp [e]

theorem goodP_at {c : List Point} (h : goodP c = true) {i : Nat} (hi : i < c.length) : 0 ≤ (c.getD i default).Time ∧ (c.getD i default).Time ≤ 10000000 ∧ -2000 ≤ (c.getD i default).Mag ∧ (c.getD i default).Mag ≤ 20000 ∧ (0 < i → (c.getD (i - 1) default).Time < (c.getD i default).Time) := by
  unfold goodP at h
  have := all_range' h hi
  simp only [okP, Bool.and_eq_true, decide_eq_true_eq, Bool.not_eq_true', Bool.and_eq_false_iff, decide_eq_false_iff_not] at this
  refine ⟨this.1.1.1, this.1.1.2, this.1.2.1, this.1.2.2, fun h0 => ?_⟩
  rcases this.2 with c | c
  · exact absurd h0 c
  · omega

end Go.Proofs.YtbobhejdijcofaaGreatDoor

