/- Plain lemmas, several texts in one. No condition. -/
import Derived.Test.YtpnomhinhcochaaGreatDoorEngTD
import Derived.Test.YtpnomhinhcochaaGreatDoorRCL
import Derived.Test.YtpnomhinhcochaaGreatDoorEngSH
import Derived.Test.YtpnomhinhcochaaGreatDoorEngSI
/- Plain loops: the first place, what is kept, what holds of some. No condition. -/
namespace Go.Proofs.YtpnomhinhcochaaGreatDoor
open Go Go.RowKit
set_option linter.unusedSimpArgs false
set_option linter.unusedVariables false

/-- The first place where p holds. -/
theorem while_find {ρ : Type} {step : Int → Option (Int ⊕ (Unit ⊕ ρ))} (p : Nat → Bool) (g : Nat → ρ) (n : Nat)
    (hs : ∀ i, i < n → step (i : Int) = some (if p i = true then .inr (.inr (g i)) else .inl ((i + 1 : Nat) : Int))) (he : step (n : Int) = some (.inr (.inl ()))) :
    whileE step 0 = some (match (List.range n).find? p with | some j => .inr (g j) | none => .inl ()) := by
  have key : ∀ m i : Nat, i + m = n → (∀ k, k < i → p k = false) → whileE step (i : Int) = some (match (List.range n).find? p with | some j => .inr (g j) | none => .inl ()) := by
    intro m
    induction m with
    | zero =>
      intro i hi hk
      obtain rfl : i = n := by omega
      rw [whileE_done he]
      have : (List.range i).find? p = none := by
        rw [List.find?_eq_none]
        intro x hx; rw [hk x (by simpa using hx)]; exact Bool.false_ne_true
      rw [this]
    | succ m ih =>
      intro i hi hk
      have hlt : i < n := by omega
      by_cases hp : p i = true
      · rw [whileE_done (by rw [hs i hlt, if_pos hp])]
        have : (List.range n).find? p = some i := by
          rw [List.find?_range_eq_some]
          exact ⟨hp, by simpa using hlt, fun j hj => by simp [hk j hj]⟩
        rw [this]
      · rw [whileE_next (by rw [hs i hlt, if_neg hp])]
        refine ih (i + 1) (by omega) fun k hk2 => ?_
        rcases Nat.lt_or_ge k i with c | c
        · exact hk k c
        · obtain rfl : k = i := by omega
          simpa using hp
  exact key n 0 (by omega) fun k hk => by omega

theorem find_any {α : Type} [Inhabited α] (xs : List α) (f : α → Bool) : ((List.range xs.length).find? fun i => f (xs.getD i default)).isSome = xs.any f := by
  rw [Bool.eq_iff_iff, List.find?_isSome, List.any_eq_true]
  constructor
  · rintro ⟨i, hi, hf⟩
    have hi' : i < xs.length := by simpa using hi
    exact ⟨_, getD_mem hi' default, hf⟩
  · rintro ⟨x, hx, hf⟩
    obtain ⟨i, hi, rfl⟩ := List.getElem_of_mem hx
    exact ⟨i, by simpa using hi, by rw [getD_lt hi]; exact hf⟩

/-- What is kept of a list, in its order. -/
def keptTo {α β : Type} (p : Nat → Bool) (x : Nat → β) (n : Nat) : List β := ((List.range n).filter p).map x

theorem keptTo_succ {β : Type} (p : Nat → Bool) (x : Nat → β) (n : Nat) : keptTo (α := β) p x (n + 1) = if p n = true then keptTo (α := β) p x n ++ [x n] else keptTo (α := β) p x n := by
  unfold keptTo
  rw [List.range_succ, List.filter_append, List.map_append]
  by_cases h : p n = true
  · simp [h]
  · simp [h]

theorem keptTo_len {β : Type} (p : Nat → Bool) (x : Nat → β) (n : Nat) : (keptTo (α := β) p x n).length ≤ n := by
  unfold keptTo
  rw [List.length_map]
  exact Nat.le_trans (List.length_filter_le _ _) (by simp)

theorem while_keep {β ρ : Type} {step : List β × Int → Option ((List β × Int) ⊕ ρ)} (p : Nat → Bool) (x : Nat → β) (n : Nat) {r : ρ}
    (hs : ∀ (out : List β) (i : Nat), i < n → out.length ≤ i → step (out, (i : Int)) = some (.inl (if p i = true then out ++ [x i] else out, ((i + 1 : Nat) : Int))))
    (he : step (keptTo (α := β) p x n, (n : Int)) = some (.inr r)) : whileE step ([], 0) = some r := by
  exact while_up (step := step) (fun i => keptTo (α := β) p x i) n (r := r) (fun i hi => by rw [hs _ i hi (keptTo_len _ _ _), keptTo_succ]) he

end Go.Proofs.YtpnomhinhcochaaGreatDoor

/- What typed forms say: names (the program). No condition. -/
namespace Go.Proofs.YtpnomhinhcochaaGreatDoor
open Go Go.RowKit
set_option linter.unusedSimpArgs false
set_option linter.unusedVariables false

def okc (first : Bool) (c : UInt8) : Bool := (decide (97 ≤ c.toNat) && decide (c.toNat ≤ 122)) || (!first && ((decide (48 ≤ c.toNat) && decide (c.toNat ≤ 57)) || c.toNat == 45))

def nameB (s : List UInt8) : Bool := decide (1 ≤ s.length) && (decide (s.length ≤ 12) && ((List.range s.length).all fun i => okc (i == 0) (s.getD i 0)))

theorem all_range {n : Nat} {p : Nat → Bool} : ((List.range n).all p = true) ↔ ∀ i, i < n → p i = true := by simp

theorem okc_core (c : UInt8) (i : Nat) : (!((decide ((97 : Int) ≤ (c.toNat : Int))) && (decide ((c.toNat : Int) ≤ 122))) && (((i : Int) == 0) || (!(((decide ((48 : Int) ≤ (c.toNat : Int))) && (decide ((c.toNat : Int) ≤ 57))) || ((c.toNat : Int) == 45))))) = !okc (i == 0) c := by
  have b1 : decide ((97 : Int) ≤ (c.toNat : Int)) = decide (97 ≤ c.toNat) := by rw [decide_eq_decide]; omega
  have b2 : decide ((c.toNat : Int) ≤ 122) = decide (c.toNat ≤ 122) := by rw [decide_eq_decide]; omega
  have b3 : decide ((48 : Int) ≤ (c.toNat : Int)) = decide (48 ≤ c.toNat) := by rw [decide_eq_decide]; omega
  have b4 : decide ((c.toNat : Int) ≤ 57) = decide (c.toNat ≤ 57) := by rw [decide_eq_decide]; omega
  have b5 : ((c.toNat : Int) == 45) = (c.toNat == 45) := by rw [Bool.eq_iff_iff]; simp; omega
  have b6 : ((i : Int) == 0) = (i == 0) := by rw [Bool.eq_iff_iff]; simp
  rw [b1, b2, b3, b4, b5, b6]
  unfold okc
  cases decide (97 ≤ c.toNat) <;> cases decide (c.toNat ≤ 122) <;> cases decide (48 ≤ c.toNat) <;> cases decide (c.toNat ≤ 57) <;> cases (c.toNat == 45) <;> cases (i == 0) <;> rfl

theorem okc_core2 (c : UInt8) : (((!(decide (97 ≤ c.toNat) && decide (c.toNat ≤ 122))) && (!(decide (48 ≤ c.toNat) && decide (c.toNat ≤ 57)))) && (!((c.toNat : Int) == 45))) = !okc false c := by
  have b5 : ((c.toNat : Int) == 45) = (c.toNat == 45) := by rw [Bool.eq_iff_iff]; simp; omega
  rw [b5]
  unfold okc
  cases decide (97 ≤ c.toNat) <;> cases decide (c.toNat ≤ 122) <;> cases decide (48 ≤ c.toNat) <;> cases decide (c.toNat ≤ 57) <;> cases (c.toNat == 45) <;> rfl

theorem impl_IsName_is (s : List UInt8) : impl_IsName s = some (nameB s) := by
  unfold impl_IsName
  by_cases h : ((s.length : Int) < 1) ∨ ((12 : Int) < s.length)
  · have h1 : ((decide ((s.length : Int) < 1)) || (decide ((12 : Int) < (s.length : Int)))) = true := by simpa using h
    have h2 : nameB s = false := by unfold nameB; by_cases a : 1 ≤ s.length <;> by_cases b : s.length ≤ 12 <;> simp [a, b] <;> omega
    simp only [h1, if_true, h2]
  · have h1 : ((decide ((s.length : Int) < 1)) || (decide ((12 : Int) < (s.length : Int)))) = false := by simpa using h
    simp only [h1, Bool.false_eq_true, if_false]
    rw [while_all (step := impl_IsName_l1 s (s.length : Int)) (fun i => okc (i == 0) (s.getD i 0)) s.length ((List.range s.length).all fun i => okc (i == 0) (s.getD i 0)) (yes := .inl ()) (no := .inr false) all_range]
    · have a1 : 1 ≤ s.length := by omega
      have a2 : s.length ≤ 12 := by omega
      unfold nameB
      simp only [a1, a2, decide_true, Bool.true_and]
      cases ((List.range s.length).all fun i => okc (i == 0) (s.getD i 0)) <;> rfl
    · intro i hi
      simp only [impl_IsName_l1, Int.ofNat_lt, hi, decide_true, if_true, ixOk_nat, ck_true, Int.toNat_natCast, wrap_nat1 (show i < 9223372036854775807 by omega)]
      rw [okc_core]
      cases okc (i == 0) (s.getD i 0) <;> rfl
    · simp [impl_IsName_l1]

end Go.Proofs.YtpnomhinhcochaaGreatDoor

/- What typed forms say: names (the reference). No condition. -/
namespace Go.Proofs.YtpnomhinhcochaaGreatDoor
open Go Go.RowKit
set_option linter.unusedSimpArgs false
set_option linter.unusedVariables false

theorem spec_l01Small_is (c : UInt8) : spec_l01Small c = some (decide (97 ≤ c.toNat) && decide (c.toNat ≤ 122)) := by
  have h1 : ((97 : Int) ≤ (c.toNat : Int)) ↔ 97 ≤ c.toNat := by omega
  have h2 : ((c.toNat : Int) ≤ 122) ↔ c.toNat ≤ 122 := by omega
  simp [spec_l01Small, h1, h2]
theorem spec_l01Digit_is (c : UInt8) : spec_l01Digit c = some (decide (48 ≤ c.toNat) && decide (c.toNat ≤ 57)) := by
  have h1 : ((48 : Int) ≤ (c.toNat : Int)) ↔ 48 ≤ c.toNat := by omega
  have h2 : ((c.toNat : Int) ≤ 57) ↔ c.toNat ≤ 57 := by omega
  simp [spec_l01Digit, h1, h2]

/-- A name: one to twelve letters, digits and dashes, the first one a letter. -/
theorem spec_IsName_is (s : List UInt8) : spec_IsName s = some (nameB s) := by
  unfold spec_IsName
  by_cases h : s.length = 0 ∨ 12 < s.length
  · have h1 : ((s == ([] : List UInt8)) || (decide ((12 : Int) < (s.length : Int)))) = true := by
      rcases h with h | h
      · have : s = [] := List.eq_nil_of_length_eq_zero h
        simp [this]
      · simp; right; omega
    have h2 : nameB s = false := by unfold nameB; by_cases a : 1 ≤ s.length <;> by_cases b : s.length ≤ 12 <;> simp [a, b] <;> omega
    simp only [h1, h2, Bool.not_true, Bool.not_false, Bool.true_or, ck_true, if_true]
  · have h1 : ((s == ([] : List UInt8)) || (decide ((12 : Int) < (s.length : Int)))) = false := by
      rw [Bool.or_eq_false_iff]
      refine ⟨?_, by simp; omega⟩
      rw [beq_eq_false_iff_ne]; rintro rfl; simp at h
    have hi0 : ixOk 0 s.length = true := ixOk_of (by omega) (by omega)
    simp only [h1, hi0, spec_l01Small_is, Option.isSome_some, Option.getD_some, Bool.or_true, ck_true, Bool.false_or]
    by_cases hf : (decide (97 ≤ (s.getD 0 0).toNat) && decide ((s.getD 0 0).toNat ≤ 122)) = true
    · rw [hf]
      simp only [Bool.not_true, Bool.false_eq_true, if_false]
      rw [while_all (step := spec_IsName_l1 s) (fun i => okc false (s.getD i 0)) s.length ((List.range s.length).all fun i => okc (i == 0) (s.getD i 0)) (yes := .inl ()) (no := .inr false)]
      · have a1 : 1 ≤ s.length := by omega
        have a2 : s.length ≤ 12 := by omega
        unfold nameB
        simp only [a1, a2, decide_true, Bool.true_and]
        cases ((List.range s.length).all fun i => okc (i == 0) (s.getD i 0)) <;> rfl
      · rw [all_range]
        refine forall_congr' fun i => forall_congr' fun hi => ?_
        by_cases e : i = 0
        · subst e; simp only [okc, hf, Bool.true_or]
        · have : (i == 0) = false := by simpa using e
          rw [this]
      · intro i hi
        simp only [spec_IsName_l1, Int.ofNat_lt, hi, decide_true, if_true, ixOk_nat, ck_true, Int.toNat_natCast, wrap_nat1 (show i < 9223372036854775807 by omega), spec_l01Small_is, spec_l01Digit_is, Option.bind_some, Option.isSome_some, Option.getD_some, Bool.or_true]
        rw [okc_core2]
        cases okc false (s.getD i 0) <;> rfl
      · simp [spec_IsName_l1]
    · have hf' : (decide (97 ≤ (s.getD 0 0).toNat) && decide ((s.getD 0 0).toNat ≤ 122)) = false := by simpa using hf
      rw [hf']
      have : nameB s = false := by
        unfold nameB
        have : ((List.range s.length).all fun i => okc (i == 0) (s.getD i 0)) = false := by
          cases hq : ((List.range s.length).all fun i => okc (i == 0) (s.getD i 0)) with
          | false => rfl
          | true =>
            have := all_range.1 hq 0 (by omega)
            simp only [okc, hf', beq_self_eq_true, Bool.not_true, Bool.false_and, Bool.or_false, Bool.false_eq_true] at this
        simp only [this, Bool.and_false]
      rw [this]; rfl

end Go.Proofs.YtpnomhinhcochaaGreatDoor

/- What typed forms say: which lists of estimates are valid. No condition. -/
namespace Go.Proofs.YtpnomhinhcochaaGreatDoor
open Go Go.RowKit
set_option linter.unusedSimpArgs false
set_option linter.unusedVariables false

theorem bytes_cmp : ∀ (a b : List UInt8), (decide (Lib.compareBytes a b < 0) = Op.bytesLess a b) ∧ ((Lib.compareBytes a b == 0) = (a == b))
  | [], [] => by simp [Lib.compareBytes, Op.bytesLess]
  | [], _ :: _ => by simp [Lib.compareBytes, Op.bytesLess]
  | _ :: _, [] => by simp [Lib.compareBytes, Op.bytesLess]
  | x :: a, y :: b => by
    obtain ⟨h1, h2⟩ := bytes_cmp a b
    by_cases e : x = y
    · subst e
      have hx : ¬ x < x := UInt8.lt_irrefl x
      simp only [Lib.compareBytes, Op.bytesLess, hx, if_false, decide_false, Bool.false_or, beq_self_eq_true, Bool.true_and]
      refine ⟨h1, ?_⟩
      rw [h2, Bool.eq_iff_iff]; simp
    · by_cases hlt : x < y
      · simp [Lib.compareBytes, Op.bytesLess, hlt, e]
      · have hgt : y < x := UInt8.lt_of_le_of_ne (UInt8.not_lt.1 hlt) (Ne.symm e)
        simp [Lib.compareBytes, Op.bytesLess, hlt, hgt, e]

theorem Compare_is (a b : List UInt8) : strings_Compare a b = some (Lib.compareBytes a b) := id rfl

theorem CompareInt_is (a b : Int) : cmp_Compare_int64 a b = some (if a < b then -1 else if b < a then 1 else 0) := by
  unfold cmp_Compare_int64 cmp_isNaN_int64
  by_cases h1 : a < b
  · simp [h1]
  · by_cases h2 : b < a
    · simp [h1, h2]
    · simp [h1, h2]

theorem Or_is (a b c : Int) : cmp_Or_int [a, b, c] = some (if a ≠ 0 then a else if b ≠ 0 then b else c) := by
  unfold cmp_Or_int
  have hs := while_find (step := cmp_Or_int_l1 0 [a, b, c] (([a, b, c] : List Int).length : Int)) (fun i => !(([a, b, c] : List Int).getD i default == 0)) (fun i => ([a, b, c] : List Int).getD i default) 3
    (fun i hi => by
      have h1 : ixOk (i : Int) ([a, b, c] : List Int).length = true := by rw [ixOk_nat]; simpa using hi
      have h2 : decide ((i : Int) < (([a, b, c] : List Int).length : Int)) = true := by simp; omega
      simp only [cmp_Or_int_l1, h1, h2, ck_true, if_true, Int.toNat_natCast, wrap_nat1 (show i < 9223372036854775807 by omega)]
      cases (!(([a, b, c] : List Int).getD i default == 0)) <;> rfl)
    (by simp [cmp_Or_int_l1])
  rw [hs]
  by_cases ha : a = 0
  · by_cases hb : b = 0
    · by_cases hc : c = 0
      · subst ha; subst hb; subst hc; rfl
      · subst ha; subst hb
        have : (List.range 3).find? (fun i => !(([0, 0, c] : List Int).getD i default == 0)) = some 2 := by
          rw [List.find?_range_eq_some]
          refine ⟨by simpa using hc, by simp, fun j hj => ?_⟩
          match j, hj with
          | 0, _ => rfl
          | 1, _ => rfl
        rw [this]; simp
    · subst ha
      have : (List.range 3).find? (fun i => !(([0, b, c] : List Int).getD i default == 0)) = some 1 := by
        rw [List.find?_range_eq_some]
        refine ⟨by simpa using hb, by simp, fun j hj => ?_⟩
        match j, hj with
        | 0, _ => rfl
      rw [this]; simp [hb]
  · have : (List.range 3).find? (fun i => !(([a, b, c] : List Int).getD i default == 0)) = some 0 := by
      rw [List.find?_range_eq_some]
      exact ⟨by simpa using ha, by simp, fun j hj => by omega⟩
    rw [this]; simp [ha]

def beforeE (a b : Estimate) : Bool := if a.Time = b.Time then (if a.Star = b.Star then Op.bytesLess a.Observer b.Observer else Op.bytesLess a.Star b.Star) else decide (a.Time < b.Time)

theorem Before_is (a b : Estimate) : spec_l06Before a b = some (beforeE a b) := by
  unfold spec_l06Before beforeE
  by_cases h1 : a.Time = b.Time
  · by_cases h2 : a.Star = b.Star
    · simp [h1, h2]
    · simp [h1, h2]
  · simp [h1]

theorem compareE_is (a b : Estimate) : ∃ c, impl_compareEstimates a b = some c ∧ decide (c < 0) = beforeE a b := by
  unfold impl_compareEstimates
  simp only [CompareInt_is, Compare_is, Or_is, Option.bind_some]
  refine ⟨_, rfl, ?_⟩
  obtain ⟨s1, s2⟩ := bytes_cmp a.Star b.Star
  obtain ⟨o1, o2⟩ := bytes_cmp a.Observer b.Observer
  unfold beforeE
  by_cases h1 : a.Time = b.Time
  · simp only [h1, Int.lt_irrefl, if_false, ne_eq, not_true_eq_false, if_true]
    by_cases h2 : a.Star = b.Star
    · have e : Lib.compareBytes a.Star b.Star = 0 := by
        have : (a.Star == b.Star) = true := by simpa using h2
        rw [this] at s2; simpa using s2
      simp only [e, not_true_eq_false, if_false, h2, if_true]
      have e2 : Lib.compareBytes b.Star b.Star = 0 := by rw [← h2] at e ⊢; exact e
      simp [e2, o1]
    · have e : ¬ Lib.compareBytes a.Star b.Star = 0 := by
        have : (a.Star == b.Star) = false := by simpa using h2
        rw [this] at s2; simpa using s2
      simp [e, h2, s1]
  · by_cases h2 : a.Time < b.Time
    · simp [h1, h2]
    · have h3 : b.Time < a.Time := by omega
      simp [h1, h2, h3]

def oneE (e : Estimate) : Bool := (((decide (0 ≤ e.Time) && decide (e.Time ≤ 10000000)) && nameB e.Star) && nameB e.Observer) && (decide (-2000 ≤ e.Mag) && decide (e.Mag ≤ 20000))

theorem l06One_is (e : Estimate) : spec_l06One e = some (oneE e) := by
  unfold spec_l06One oneE
  simp only [spec_l06Time, spec_l02Mag, spec_l00In_is, spec_IsName_is, Option.bind_some, Option.isSome_some, Option.getD_some, Bool.or_true, ck_true]

theorem isEstimate_is (e : Estimate) : impl_isEstimate e = some (oneE e) := by
  unfold impl_isEstimate oneE
  simp only [impl_ValidTime, impl_ValidMag, impl_in_is, impl_IsName_is, Option.bind_some, Option.isSome_some, Option.getD_some, Bool.or_true, ck_true]

def okE (l : List Estimate) (i : Nat) : Bool := oneE (l.getD i default) && !(decide (0 < i) && !beforeE (l.getD (i - 1) default) (l.getD i default))
def goodE (l : List Estimate) : Bool := (List.range l.length).all (okE l)

theorem l06_step {l : List Estimate} (hl : l.length ≤ 1099511627776) {i : Nat} (hi : i < l.length) : spec_l06Ok_l1 l (i : Int) = some (if okE l i = true then .inl ((i + 1 : Nat) : Int) else .inr (.inr false)) := by
  simp only [spec_l06Ok_l1, ixOk_nat, hi, decide_true, ck_true, Int.ofNat_lt, if_true, Int.toNat_natCast, wrap_nat1 (show i < 9223372036854775807 by omega), l06One_is, Before_is, Option.bind_some, Option.isSome_some, Option.getD_some, Bool.or_true]
  unfold okE
  by_cases h0 : 0 < i
  · have e0 : decide ((0 : Int) < (i : Int)) = true := by simpa using h0
    have e1 : decide (0 < i) = true := by simpa using h0
    have w1 : IntKind.i64.wrap ((i : Int) - 1) = ((i - 1 : Nat) : Int) := by rw [wrap_i64 (by omega) (by omega)]; omega
    have ok1 : ixOk ((i - 1 : Nat) : Int) l.length = true := by rw [ixOk_nat]; simp; omega
    simp only [e0, e1, w1, ok1, Bool.or_true, ck_true, Bool.true_and, Int.toNat_natCast]
    generalize oneE (l.getD i default) = A
    generalize beforeE (l.getD (i - 1) default) (l.getD i default) = B
    cases A <;> cases B <;> rfl
  · have e0 : decide ((0 : Int) < (i : Int)) = false := by simpa using h0
    have e1 : decide (0 < i) = false := by simpa using h0
    simp only [e0, e1, Bool.false_and, Bool.and_false, Bool.not_false, Bool.true_or, ck_true, Bool.or_false, Bool.and_true]
    generalize oneE (l.getD i default) = A
    cases A <;> rfl

theorem l06Ok_is {l : List Estimate} (hl : l.length ≤ 1099511627776) : spec_l06Ok l = some (goodE l && decide (l.length ≤ 100)) := by
  unfold spec_l06Ok
  rw [while_all (step := spec_l06Ok_l1 l) (okE l) l.length (goodE l) (yes := .inl ()) (no := .inr false) (by unfold goodE; simp) (fun i hi => l06_step hl hi) (by simp [spec_l06Ok_l1])]
  have e : decide ((l.length : Int) ≤ 100) = decide (l.length ≤ 100) := by rw [Bool.eq_iff_iff]; simp; omega
  simp only [Option.bind_some, ite_b]
  cases goodE l <;> simp [e]

theorem valid_step {l : List Estimate} (hl : l.length ≤ 1099511627776) {i : Nat} (hi : i < l.length) : impl_ValidEstimates_l1 l l (l.length : Int) (i : Int) = some (if okE l i = true then .inl ((i + 1 : Nat) : Int) else .inr (.inr false)) := by
  obtain ⟨c, hc, hc2⟩ := compareE_is (l.getD (i - 1) default) (l.getD i default)
  simp only [impl_ValidEstimates_l1, ixOk_nat, hi, decide_true, ck_true, Int.ofNat_lt, if_true, Int.toNat_natCast, wrap_nat1 (show i < 9223372036854775807 by omega), isEstimate_is, Option.bind_some, Option.isSome_some, Option.getD_some, Bool.or_true]
  unfold okE
  by_cases h0 : 0 < i
  · have e0 : decide ((0 : Int) < (i : Int)) = true := by simpa using h0
    have e1 : decide (0 < i) = true := by simpa using h0
    have w1 : IntKind.i64.wrap ((i : Int) - 1) = ((i - 1 : Nat) : Int) := by rw [wrap_i64 (by omega) (by omega)]; omega
    have ok1 : ixOk ((i - 1 : Nat) : Int) l.length = true := by rw [ixOk_nat]; simp; omega
    simp only [e0, e1, w1, ok1, Bool.or_true, ck_true, Bool.true_and, Int.toNat_natCast, hc, Option.isSome_some, Option.getD_some]
    have e2 : decide (0 ≤ c) = !beforeE (l.getD (i - 1) default) (l.getD i default) := by
      rw [← hc2, ← decide_not]; congr 1; rw [Int.not_lt]
    rw [e2]
    generalize oneE (l.getD i default) = A
    generalize beforeE (l.getD (i - 1) default) (l.getD i default) = B
    cases A <;> cases B <;> rfl
  · have e0 : decide ((0 : Int) < (i : Int)) = false := by simpa using h0
    have e1 : decide (0 < i) = false := by simpa using h0
    simp only [e0, e1, Bool.false_and, Bool.and_false, Bool.not_false, Bool.true_or, ck_true, Bool.or_false, Bool.and_true]
    generalize oneE (l.getD i default) = A
    cases A <;> rfl

theorem ValidEstimates_is {l : List Estimate} (hl : l.length ≤ 1099511627776) : impl_ValidEstimates l = some (goodE l && decide (l.length ≤ 100)) := by
  unfold impl_ValidEstimates
  by_cases h : 100 < (l.length : Int)
  · have e : decide (l.length ≤ 100) = false := by simp; omega
    simp [h, e]
  · have e : decide (l.length ≤ 100) = true := by simp; omega
    simp only [h, decide_false, Bool.false_eq_true, if_false]
    rw [while_all (step := impl_ValidEstimates_l1 l l (l.length : Int)) (okE l) l.length (goodE l) (yes := .inl ()) (no := .inr false) (by unfold goodE; simp) (fun i hi => valid_step hl hi) (by simp [impl_ValidEstimates_l1])]
    simp only [Option.bind_some, ite_b, e]
    cases goodE l <;> rfl

end Go.Proofs.YtpnomhinhcochaaGreatDoor

/- Plain texts: splitting, cutting, decimal numerals. No condition. -/
namespace Go.Proofs.YtpnomhinhcochaaGreatDoor
open Go Go.RowKit
set_option linter.unusedSimpArgs false
set_option linter.unusedVariables false

/-! ### Parts of a text -/

def splitAcc (c : UInt8) : List UInt8 → List UInt8 → List (List UInt8)
  | acc, [] => [acc]
  | acc, x :: r => if x = c then acc :: splitAcc c [] r else splitAcc c (acc ++ [x]) r

def splitOn (c : UInt8) (s : List UInt8) : List (List UInt8) := splitAcc c [] s

theorem splitAcc_no {c : UInt8} : ∀ {s acc : List UInt8}, c ∉ s → splitAcc c acc s = [acc ++ s]
  | [], acc, _ => by simp [splitAcc]
  | x :: r, acc, h => by
    have hx : x ≠ c := fun e => h (by simp [e])
    rw [splitAcc, if_neg hx, splitAcc_no (fun hm => h (by simp [hm])), List.append_assoc]; rfl

theorem splitAcc_app {c : UInt8} : ∀ {a acc b : List UInt8}, c ∉ a → splitAcc c acc (a ++ c :: b) = (acc ++ a) :: splitAcc c [] b
  | [], acc, b, _ => by simp [splitAcc]
  | x :: r, acc, b, h => by
    have hx : x ≠ c := fun e => h (by simp [e])
    rw [List.cons_append, splitAcc, if_neg hx, splitAcc_app (fun hm => h (by simp [hm])), List.append_assoc]; rfl

theorem splitAcc_ne (c : UInt8) : ∀ s acc : List UInt8, splitAcc c acc s ≠ []
  | [], acc => by simp [splitAcc]
  | x :: r, acc => by
    rw [splitAcc]
    split
    · simp
    · exact splitAcc_ne c r _

theorem splitAcc_len (c : UInt8) : ∀ s acc : List UInt8, 1 ≤ (splitAcc c acc s).length ∧ (splitAcc c acc s).length ≤ s.length + 1
  | [], acc => by simp [splitAcc]
  | x :: r, acc => by
    rw [splitAcc]
    split
    · have := splitAcc_len c r []
      simp only [List.length_cons]; omega
    · have := splitAcc_len c r (acc ++ [x])
      simp only [List.length_cons]; omega

/-- The parts of a text, put together again. -/
def joinOn (c : UInt8) : List (List UInt8) → List UInt8
  | [] => []
  | [a] => a
  | a :: b :: r => a ++ c :: joinOn c (b :: r)

theorem join_splitAcc (c : UInt8) : ∀ s acc : List UInt8, joinOn c (splitAcc c acc s) = acc ++ s
  | [], acc => by simp [splitAcc, joinOn]
  | x :: r, acc => by
    rw [splitAcc]
    split
    · rename_i e
      have h := join_splitAcc c r []
      cases hs : splitAcc c [] r with
      | nil => exact absurd hs (splitAcc_ne c r [])
      | cons b t => rw [hs] at h; rw [joinOn, h, e]; rfl
    · rw [join_splitAcc c r (acc ++ [x]), List.append_assoc]; rfl

theorem part_free (c : UInt8) : ∀ {s acc : List UInt8}, c ∉ acc → ∀ p ∈ splitAcc c acc s, c ∉ p
  | [], acc, h, p, hp => by simp [splitAcc] at hp; rw [hp]; exact h
  | x :: r, acc, h, p, hp => by
    rw [splitAcc] at hp
    split at hp
    · rcases List.mem_cons.1 hp with e | hp
      · rw [e]; exact h
      · exact part_free c (by simp) p hp
    · rename_i hx
      exact part_free c (by simp only [List.mem_append, List.mem_singleton, not_or]; exact ⟨h, fun e => hx e.symm⟩) p hp

theorem split_join (c : UInt8) : ∀ (l : List (List UInt8)), l ≠ [] → (∀ p ∈ l, c ∉ p) → splitOn c (joinOn c l) = l
  | [], h, _ => absurd rfl h
  | [a], _, h => by
    unfold splitOn joinOn
    rw [splitAcc_no (h a (by simp))]; rfl
  | a :: b :: r, _, h => by
    have ih := split_join c (b :: r) (by simp) (fun p hp => h p (by simp [hp]))
    unfold splitOn at ih ⊢
    rw [joinOn, splitAcc_app (h a (by simp)), ih]; rfl

/-! ### Where a byte stands -/

theorem idx_cases (c : UInt8) : ∀ s : List UInt8, (Lib.index s [c] = -1 ∧ c ∉ s) ∨ ∃ a b, s = a ++ c :: b ∧ c ∉ a ∧ Lib.index s [c] = a.length
  | [] => .inl ⟨by simp [Lib.index], by simp⟩
  | x :: r => by
    unfold Lib.index
    by_cases e : x = c
    · subst e
      exact .inr ⟨[], r, rfl, by simp, by simp⟩
    · have e1 : (List.isPrefixOf [c] (x :: r)) = false := by
        simp only [List.isPrefixOf, Bool.and_true, beq_eq_false_iff_ne]; exact fun h => e h.symm
      rw [e1]
      rcases idx_cases c r with ⟨h1, h2⟩ | ⟨a, b, rfl, h2, h3⟩
      · exact .inl ⟨by simp [h1], by simp only [List.mem_cons, not_or]; exact ⟨fun h => e h.symm, h2⟩⟩
      · refine .inr ⟨x :: a, b, rfl, by simp only [List.mem_cons, not_or]; exact ⟨fun h => e h.symm, h2⟩, ?_⟩
        rw [h3]
        have : (((a.length : Int)) == -1) = false := by rw [beq_eq_false_iff_ne]; omega
        simp [this]

theorem cut_no {c : UInt8} {s : List UInt8} (h : c ∉ s) : Lib.cut s [c] = (s, [], false) := by
  rcases idx_cases c s with ⟨h1, _⟩ | ⟨a, b, rfl, _, _⟩
  · unfold Lib.cut; rw [h1, if_neg (by decide)]
  · exact absurd (by simp) h

theorem cut_yes {c : UInt8} {a b : List UInt8} (h : c ∉ a) : Lib.cut (a ++ c :: b) [c] = (a, b, true) := by
  rcases idx_cases c (a ++ c :: b) with ⟨_, h2⟩ | ⟨a', b', e, h2, h3⟩
  · exact absurd (by simp) h2
  · have ha : a' = a ∧ b' = b := by
      have s1 := splitAcc_app (acc := []) (b := b) h
      have s2 := splitAcc_app (acc := []) (b := b') h2
      rw [e, s2] at s1
      have : [] ++ a' = [] ++ a := (List.cons.inj s1).1
      have hab : a' = a := by simpa using this
      subst hab
      exact ⟨rfl, ((List.cons.inj (List.append_cancel_left e)).2).symm⟩
    obtain ⟨rfl, rfl⟩ := ha
    unfold Lib.cut
    rw [h3, if_pos (by omega)]
    simp

theorem splitK_is (c : UInt8) : ∀ (k : Nat) (s : List UInt8), s.count c = k → Lib.splitK [c] 0 k s = splitOn c s := by
  intro k
  induction k with
  | zero =>
    intro s h
    have hc : c ∉ s := List.count_eq_zero.1 h
    unfold splitOn
    rw [splitAcc_no hc]; rfl
  | succ k ih =>
    intro s h
    rcases idx_cases c s with ⟨h1, h2⟩ | ⟨a, b, rfl, h2, h3⟩
    · rw [List.count_eq_zero.2 h2] at h; omega
    · unfold Lib.splitK
      have hne : ((a.length : Int) == -1) = false := by rw [beq_eq_false_iff_ne]; omega
      rw [h3]
      simp only [hne, Bool.false_eq_true, if_false]
      have hcnt : b.count c = k := by
        rw [List.count_append, List.count_eq_zero.2 h2, List.count_cons_self] at h; omega
      have e1 : (a ++ c :: b).take ((a.length : Int).toNat + 0) = a := by simp
      have e2 : (a ++ c :: b).drop ((a.length : Int).toNat + ([c] : List UInt8).length) = b := by simp
      unfold splitOn
      rw [splitAcc_app h2]
      first
        | rw [e1, e2, ih b hcnt]
        | (rw [e2, ih b hcnt]; simp [splitOn])
      rfl

theorem count_one (c : UInt8) : ∀ (f : Nat) (s : List UInt8), s.length < f → Lib.countFrom [c] f s = s.count c := by
  intro f
  induction f with
  | zero => intro s h; omega
  | succ f ih =>
    intro s h
    unfold Lib.countFrom
    rcases idx_cases c s with ⟨h1, h2⟩ | ⟨a, b, rfl, h2, h3⟩
    · simp [h1, List.count_eq_zero.2 h2]
    · have hne : ((a.length : Int) == -1) = false := by rw [beq_eq_false_iff_ne]; omega
      rw [h3]
      simp only [hne, Bool.false_eq_true, if_false]
      have e2 : (a ++ c :: b).drop ((a.length : Int).toNat + ([c] : List UInt8).length) = b := by simp
      rw [e2, ih b (by simp at h; omega), List.count_append, List.count_eq_zero.2 h2, List.count_cons_self]
      omega

theorem split_is (c : UInt8) (s : List UInt8) : Lib.split s [c] = splitOn c s := by
  unfold Lib.split Lib.count
  rw [count_one c _ s (by omega)]
  exact splitK_is c _ s rfl

theorem hSplit_one {c : UInt8} {s : List UInt8} (h : s.length < 4294967281) : hSplit s [c] = some (splitOn c s) := by
  unfold hSplit
  rw [split_is]
  simp [h]

theorem hCut_one {c : UInt8} {s : List UInt8} (h : s.length < 4294967281) : hCut s [c] = some (Lib.cut s [c]) := by
  unfold hCut; rw [if_pos h]

/-! ### Digits -/

def dig (c : UInt8) : Bool := decide (48 ≤ (c.toNat : Int)) && decide ((c.toNat : Int) ≤ 57)

theorem dig_iff {c : UInt8} : dig c = true ↔ 48 ≤ c.toNat ∧ c.toNat ≤ 57 := by
  unfold dig
  simp only [Bool.and_eq_true, decide_eq_true_eq]
  omega

def valF (n : Nat) (l : List UInt8) : Nat := l.foldl (fun n c => n * 10 + (c.toNat - 48)) n
theorem valF_nil (n : Nat) : valF n [] = n := by unfold valF; rw [List.foldl_nil]
theorem valF_cons (n : Nat) (c : UInt8) (r : List UInt8) : valF n (c :: r) = valF (n * 10 + (c.toNat - 48)) r := by unfold valF; rw [List.foldl_cons]

theorem valF_lt {l : List UInt8} : ∀ {n a : Nat}, n < 10 ^ a → l.all dig = true → valF n l < 10 ^ (a + l.length) := by
  induction l with
  | nil => intro n a h _; rw [valF_nil]; exact h
  | cons c r ih =>
    intro n a h hd
    simp only [List.all_cons, Bool.and_eq_true] at hd
    have hc := dig_iff.1 hd.1
    have h2 : n * 10 + (c.toNat - 48) < 10 ^ (a + 1) := by rw [Nat.pow_succ]; omega
    have := ih h2 hd.2
    rw [valF_cons, List.length_cons]
    rwa [Nat.add_assoc, Nat.add_comm 1] at this

theorem pow_small {k : Nat} (h : k ≤ 18) : (10 : Nat) ^ k ≤ 1000000000000000000 := Nat.pow_le_pow_right (by omega) h

/-- What the parsing of a text that is no numeral ends with. -/
def noNum := Lib.parseUintM 0 0 [0]

theorem parse_digits {l : List UInt8} : ∀ {n a : Nat}, n < 10 ^ a → a + l.length ≤ 18 → Lib.parseUintM (2 ^ 64 - 1) n l = if l.all dig = true then .ok (valF n l) else noNum := by
  induction l with
  | nil => intro n a _ _; simp [Lib.parseUintM, valF_nil]
  | cons c r ih =>
    intro n a h hl
    rw [List.length_cons] at hl
    have hp := pow_small (show a ≤ 18 by omega)
    have hp1 := pow_small (show a + 1 ≤ 18 by omega)
    rw [Lib.parseUintM]
    by_cases hc : 48 ≤ c.toNat ∧ c.toNat ≤ 57
    · have h2 : n * 10 + (c.toNat - 48) < 10 ^ (a + 1) := by rw [Nat.pow_succ]; omega
      rw [if_pos hc, if_neg (by omega), if_neg (by omega), ih h2 (by omega)]
      simp only [List.all_cons, dig_iff.2 hc, Bool.true_and, valF_cons]
    · rw [if_neg hc]
      have : dig c = false := by
        cases hd : dig c with
        | false => rfl
        | true => exact absurd (dig_iff.1 hd) hc
      simp only [List.all_cons, this, Bool.false_and, Bool.false_eq_true, if_false]
      rfl

theorem dec_dig : ∀ (k u : Nat), u < 10 ^ (k + 1) → (Lib.decDigits u).all dig = true
  | 0, u, h => by
    have h : u < 10 := by simpa using h
    rw [Lib.decDigits_one h]
    simp only [List.all_cons, List.all_nil, Bool.and_true, dig_iff, UInt8.toNat_ofNat']
    omega
  | k + 1, u, h => by
    by_cases c : u < 10
    · rw [Lib.decDigits_one c]
      simp only [List.all_cons, List.all_nil, Bool.and_true, dig_iff, UInt8.toNat_ofNat']
      omega
    · rw [Lib.decDigits, dif_neg c, List.all_append, dec_dig k (u / 10) (by rw [Nat.pow_succ] at h; omega)]
      simp only [List.all_cons, List.all_nil, Bool.and_true, Bool.true_and, dig_iff, UInt8.toNat_ofNat']
      omega

theorem dec_all (u : Nat) : (Lib.decDigits u).all dig = true := dec_dig u u (Nat.lt_of_lt_of_le (Nat.lt_pow_self (by omega)) (Nat.pow_le_pow_right (by omega) (by omega)))

theorem itoa_plus (n : Int) (r : List UInt8) : Lib.itoa n ≠ 43 :: r := by
  intro h
  unfold Lib.itoa at h
  split at h
  · have := (List.cons.inj h).1
    exact absurd this (by decide)
  · have := dec_all n.toNat
    rw [h] at this
    simp [dig] at this

theorem trim_minus (r : List UInt8) : Lib.trimPrefix (45 :: r) [45] = r := by simp [Lib.trimPrefix, Lib.hasPrefix]
theorem trim_other {c : UInt8} {r : List UInt8} (h : c ≠ 45) : Lib.trimPrefix (c :: r) [45] = c :: r := by
  unfold Lib.trimPrefix Lib.hasPrefix
  have : (List.isPrefixOf [45] (c :: r)) = false := by
    simp only [List.isPrefixOf, Bool.and_true, beq_eq_false_iff_ne]; exact fun e => h e.symm
  simp [this]

/-- What the program's reading of a numeral gives, by digits. -/
theorem rdDec_minus {r : List UInt8} : rdDec (45 :: r) = if r.length < 1 ∨ 18 < r.length then (0, false) else if r.all dig = true then (if Lib.itoa (-(valF 0 r : Int)) = 45 :: r then (-(valF 0 r : Int), true) else (0, false)) else (0, false) := by
  unfold rdDec
  rw [trim_minus]
  by_cases h : r.length < 1 ∨ 18 < r.length
  · rw [if_pos h, if_pos h]
  · rw [if_neg h, if_neg h]
    have hne : r ≠ [] := fun e => h (.inl (by simp [e]))
    have hp := parse_digits (l := r) (n := 0) (a := 0) (by simp) (by omega)
    have e43 : ((45 : UInt8).toNat = 43 ∨ (45 : UInt8).toNat = 45) := .inr rfl
    unfold Lib.parseIntB
    simp only [e43, if_true, Lib.parseUintB, hne, if_false, hp]
    by_cases hd : r.all dig = true
    · have hv := valF_lt (l := r) (n := 0) (a := 0) (by simp) hd
      have hv2 := pow_small (k := 0 + r.length) (by omega)
      have e45 : ((45 : UInt8).toNat = 45) := rfl
      have n2 : ¬ (2 ^ (64 - 1) < valF 0 r) := by omega
      simp only [hd, if_true, e45, not_true_eq_false, false_and, if_false, true_and, n2]
    · simp only [hd, Bool.false_eq_true, if_false]
      rfl

theorem rdDec_other {c : UInt8} {r : List UInt8} (hc : c ≠ 45) : rdDec (c :: r) = if (c :: r).length < 1 ∨ 18 < (c :: r).length then (0, false) else if (c :: r).all dig = true then (if Lib.itoa (valF 0 (c :: r) : Int) = c :: r then ((valF 0 (c :: r) : Int), true) else (0, false)) else (0, false) := by
  unfold rdDec
  rw [trim_other hc]
  by_cases h : (c :: r).length < 1 ∨ 18 < (c :: r).length
  · rw [if_pos h, if_pos h]
  · rw [if_neg h, if_neg h]
    have e45 : ¬ (c.toNat = 45) := fun e => hc (by rw [← UInt8.toNat_inj]; exact e)
    by_cases h43 : c = 43
    · subst h43
      have hd : ((43 : UInt8) :: r).all dig = false := by simp [dig]
      rw [hd]
      simp only [Bool.false_eq_true, if_false]
      rcases hp : Lib.parseIntB 64 (43 :: r) with v | _ | _
      · simp only [if_neg (itoa_plus v r)]
      · rfl
      · rfl
    · have e43 : ¬ (c.toNat = 43 ∨ c.toNat = 45) := fun e => by
        rcases e with e | e
        · exact h43 (by rw [← UInt8.toNat_inj]; exact e)
        · exact e45 e
      have hp := parse_digits (l := c :: r) (n := 0) (a := 0) (by simp) (by omega)
      unfold Lib.parseIntB
      simp only [e43, if_false, Lib.parseUintB, List.cons_ne_nil, hp]
      by_cases hd : (c :: r).all dig = true
      · have hv := valF_lt (l := c :: r) (n := 0) (a := 0) (by simp) hd
        have hv2 := pow_small (k := 0 + (c :: r).length) (by omega)
        have n1 : ¬ (2 ^ (64 - 1) ≤ valF 0 (c :: r)) := by omega
        simp only [hd, if_true, e45, not_false_eq_true, true_and, n1, false_and, if_false]
      · simp only [hd, Bool.false_eq_true, if_false]
        rfl

end Go.Proofs.YtpnomhinhcochaaGreatDoor

/- (the program alone) What typed forms say: decimal numerals. No condition. -/
namespace Go.Proofs.YtpnomhinhcochaaGreatDoor
open Go Go.RowKit
set_option linter.unusedSimpArgs false
set_option linter.unusedVariables false

theorem nDigits_le : ∀ (k u : Nat), u < 10 ^ (k + 1) → Lib.nDigits u ≤ k + 1
  | 0, u, h => by rw [Lib.nDigits_small (by simpa using h)]; omega
  | k + 1, u, h => by
    by_cases c : u < 10
    · rw [Lib.nDigits_small c]; omega
    · rw [Lib.nDigits_big c]
      have := nDigits_le k (u / 10) (by rw [Nat.pow_succ] at h; omega)
      omega

theorem decDigits_len {u : Nat} (h : u ≤ 9223372036854775808) : (Lib.decDigits u).length ≤ 20 := by
  rw [Lib.decDigits_length]
  exact nDigits_le 19 u (by omega)

theorem itoa_len {n : Int} (h : R64 n) : (Lib.itoa n).length ≤ 21 := by
  obtain ⟨h1, h2⟩ := h
  unfold Lib.itoa
  split
  · have := decDigits_len (u := n.natAbs) (by omega)
    simp; omega
  · have := decDigits_len (u := n.toNat) (by omega)
    omega

theorem Decimal_is {n : Int} (hr : R64 n) : impl_Decimal n = some (Lib.itoa n) := by
  obtain ⟨h1, h2⟩ := hr
  unfold impl_Decimal strconv_FormatInt hFmt
  simp [h1, h2]

end Go.Proofs.YtpnomhinhcochaaGreatDoor

/- (the program alone) Plain texts: a numeral reads as its number. No condition. -/
namespace Go.Proofs.YtpnomhinhcochaaGreatDoor
open Go Go.RowKit
set_option linter.unusedSimpArgs false
set_option linter.unusedVariables false

theorem decDigits_ne (u : Nat) : 1 ≤ (Lib.decDigits u).length := by
  rw [Lib.decDigits_length]; exact Lib.nDigits_pos u

/-! ### A numeral's own reading -/

theorem valF_app (n : Nat) (a b : List UInt8) : valF n (a ++ b) = valF (valF n a) b := by unfold valF; rw [List.foldl_append]

theorem val_dec : ∀ (k u : Nat), u < 10 ^ (k + 1) → valF 0 (Lib.decDigits u) = u
  | 0, u, h => by
    have h : u < 10 := by simpa using h
    rw [Lib.decDigits_one h, valF_cons, valF_nil, UInt8.toNat_ofNat']
    omega
  | k + 1, u, h => by
    by_cases c : u < 10
    · rw [Lib.decDigits_one c, valF_cons, valF_nil, UInt8.toNat_ofNat']
      omega
    · rw [Lib.decDigits, dif_neg c, valF_app, val_dec k (u / 10) (by rw [Nat.pow_succ] at h; omega), valF_cons, valF_nil, UInt8.toNat_ofNat']
      omega

theorem itoa_nat (u : Nat) : Lib.itoa (u : Int) = Lib.decDigits u := by unfold Lib.itoa; rw [if_neg (by omega)]; simp

theorem rdDec_small {n : Int} (h0 : 0 ≤ n) (h1 : n ≤ 65520) : rdDec (Lib.itoa n) = (n, true) := by
  obtain ⟨u, rfl⟩ := Int.eq_ofNat_of_zero_le h0
  rw [itoa_nat]
  have hl := Lib.decDigits_length u
  have hn := nDigits_le 4 u (by omega)
  have hne := decDigits_ne u
  have hall := dec_all u
  have hval := val_dec 4 u (by omega)
  cases hd : Lib.decDigits u with
  | nil => rw [hd] at hne; exact absurd hne (by simp)
  | cons c r =>
    rw [hd] at hl hall hval hne
    have hc : c ≠ 45 := fun e => by
      subst e
      have : dig 45 = true := (List.all_eq_true.1 hall) 45 (by simp)
      exact absurd this (by decide)
    rw [rdDec_other hc, if_neg (by omega), if_pos hall, hval, if_pos (by rw [itoa_nat, hd])]

theorem rdDec_any {n : Int} (h0 : -1000000000000000000 < n) (h1 : n < 1000000000000000000) : rdDec (Lib.itoa n) = (n, true) := by
  by_cases hn : 0 ≤ n
  · obtain ⟨u, rfl⟩ := Int.eq_ofNat_of_zero_le hn
    rw [itoa_nat]
    have hl := Lib.decDigits_length u
    have hnd := nDigits_le 17 u (by omega)
    have hne := decDigits_ne u
    have hall := dec_all u
    have hval := val_dec 17 u (by omega)
    cases hd : Lib.decDigits u with
    | nil => rw [hd] at hne; exact absurd hne (by simp)
    | cons c r =>
      rw [hd] at hl hall hval hne
      have hc : c ≠ 45 := fun e => by
        subst e
        have : dig 45 = true := (List.all_eq_true.1 hall) 45 (by simp)
        exact absurd this (by decide)
      rw [rdDec_other hc, if_neg (by omega), if_pos hall, hval, if_pos (by rw [itoa_nat, hd])]
  · obtain ⟨u, hu⟩ := Int.eq_ofNat_of_zero_le (show 0 ≤ -n by omega)
    obtain rfl : n = -(u : Int) := by omega
    have e : Lib.itoa (-(u : Int)) = 45 :: Lib.decDigits u := by unfold Lib.itoa; rw [if_pos (by omega)]; simp
    rw [e]
    have hl := Lib.decDigits_length u
    have hnd := nDigits_le 17 u (by omega)
    have hne := decDigits_ne u
    have hall := dec_all u
    have hval := val_dec 17 u (by omega)
    rw [rdDec_minus, if_neg (by omega), if_pos hall, hval, if_pos e]

theorem dec_free {c : UInt8} (hc : dig c = false) (u : Nat) : c ∉ Lib.decDigits u := fun h => by
  have := (List.all_eq_true.1 (dec_all u)) c h
  rw [hc] at this; cases this

end Go.Proofs.YtpnomhinhcochaaGreatDoor

/- What typed forms say: numerals with leading zeros, of the program. No condition. -/
namespace Go.Proofs.YtpnomhinhcochaaGreatDoor
open Go Go.RowKit
set_option linter.unusedSimpArgs false
set_option linter.unusedVariables false

def dg (n : Nat) : UInt8 := UInt8.ofNat (48 + n)
def d2 (n : Nat) : List UInt8 := [dg (n / 10), dg (n % 10)]
def d3 (n : Nat) : List UInt8 := [dg (n / 100), dg (n / 10 % 10), dg (n % 10)]

theorem dec1 {n : Nat} (h : n < 10) : Lib.decDigits n = [dg n] := Lib.decDigits_one h
theorem dec2 {n : Nat} (h : ¬ n < 10) : Lib.decDigits n = Lib.decDigits (n / 10) ++ [dg (n % 10)] := by rw [Lib.decDigits, dif_neg h]; rfl

theorem padded_loop (k : Nat) (hk : k ≤ 100) (s : List UInt8) (hs : s.length ≤ 100) : whileE (impl_padded_l1 (k : Int)) s = some (List.replicate (k - s.length) 48 ++ s) := by
  generalize hm : k - s.length = m
  induction m generalizing s with
  | zero =>
    refine whileE_done ?_
    have : ¬ (s.length : Int) < (k : Int) := by omega
    simp [impl_padded_l1, this]
  | succ m ih =>
    have hlt : (s.length : Int) < (k : Int) := by omega
    rw [whileE_next (s' := [48] ++ s) (by
      simp only [impl_padded_l1, hlt, decide_true, if_true]
      rw [catOk_of (by simp; omega), ck_true]), ih ([48] ++ s) (by simp; omega) (by simp; omega)]
    rw [List.replicate_succ', List.append_assoc]

theorem padded_is {n : Nat} {k : Nat} (hk : k ≤ 100) (h : n ≤ 1000000000) : impl_padded (n : Int) (k : Int) = some (List.replicate (k - (Lib.decDigits n).length) 48 ++ Lib.decDigits n) := by
  unfold impl_padded
  have hl := decDigits_len (u := n) (by omega)
  rw [Decimal_is (n := (n : Int)) ⟨by omega, by omega⟩, itoa_nat]
  simp only [Option.bind_some]
  rw [padded_loop k hk _ (by omega)]
  rfl

theorem padded3 {n : Nat} (h : n ≤ 999) : impl_padded (n : Int) 3 = some (d3 n) := by
  have := padded_is (n := n) (k := 3) (by omega) (by omega)
  rw [show ((3 : Nat) : Int) = 3 by rfl] at this
  rw [this]
  by_cases c : n < 10
  · rw [dec1 c]
    have e1 : n / 10 % 10 = 0 := by omega
    have e2 : n % 10 = n := by omega
    have e3 : n / 100 = 0 := by omega
    simp only [d3, e1, e2, e3]; rfl
  · by_cases c2 : n < 100
    · rw [dec2 c, dec1 (show n / 10 < 10 by omega)]
      have e1 : n / 10 % 10 = n / 10 := by omega
      have e3 : n / 100 = 0 := by omega
      simp only [d3, e1, e3]; rfl
    · rw [dec2 c, dec2 (show ¬ n / 10 < 10 by omega), dec1 (show n / 10 / 10 < 10 by omega)]
      have e3 : n / 10 / 10 = n / 100 := by omega
      simp only [d3, e3]; rfl

/-! ### Magnitudes -/

def magT (m : Int) : List UInt8 := (if m < 0 then ([45] : List UInt8) else []) ++ Lib.decDigits (m.natAbs / 1000) ++ [46] ++ d3 (m.natAbs % 1000)

theorem decDigits_all (u : Nat) : ∀ c, c ∈ Lib.decDigits u → 48 ≤ c.toNat ∧ c.toNat ≤ 57 := fun c hc => dig_iff.1 (List.all_eq_true.1 (dec_all u) c hc)

theorem decDigits_cons (u : Nat) : ∃ c r, Lib.decDigits u = c :: r ∧ 48 ≤ c.toNat ∧ c.toNat ≤ 57 := by
  have hne := decDigits_ne u
  cases hd : Lib.decDigits u with
  | nil => rw [hd] at hne; exact absurd hne (by simp)
  | cons c r => exact ⟨c, r, rfl, decDigits_all u c (by rw [hd]; simp)⟩

theorem not_dig {c d : UInt8} (h : 48 ≤ d.toNat ∧ d.toNat ≤ 57) (hc : c.toNat < 48 ∨ 57 < c.toNat) : d ≠ c := fun e => by subst e; omega

theorem magT_len {m : Int} (h0 : -2000 ≤ m) (h1 : m ≤ 20000) : 1 ≤ (magT m).length ∧ (magT m).length ≤ 30 := by
  have := decDigits_len (u := m.natAbs / 1000) (by omega)
  unfold magT d3
  simp only [List.length_append, List.length_cons, List.length_nil]
  split <;> simp <;> omega

theorem MagText_is {m : Int} (h0 : -2000 ≤ m) (h1 : m ≤ 20000) : impl_MagText m = some (magT m) := by
  have hv : impl_ValidMag m = some true := by
    unfold impl_ValidMag
    rw [impl_in_is]
    simp [h0, h1]
  have hl := decDigits_len (u := m.natAbs / 1000) (by omega)
  unfold impl_MagText
  rw [hv]
  simp only [Option.bind_some, Bool.not_true, Bool.false_eq_true, if_false]
  have hd : ∀ z : Int, z = (m.natAbs : Int) → IntKind.i64.wrap (z.tdiv 1000) = ((m.natAbs / 1000 : Nat) : Int) ∧ z.tmod 1000 = ((m.natAbs % 1000 : Nat) : Int) := by
    rintro z rfl
    rw [Int.tdiv_eq_ediv_of_nonneg (by omega), Int.tmod_eq_emod_of_nonneg (by omega), wrap_i64 (by omega) (by omega)]
    omega
  have hp := padded3 (n := m.natAbs % 1000) (by omega)
  have hD : impl_Decimal ((m.natAbs / 1000 : Nat) : Int) = some (Lib.decDigits (m.natAbs / 1000)) := by rw [Decimal_is ⟨by omega, by omega⟩, itoa_nat]
  have h3 : (d3 (m.natAbs % 1000)).length = 3 := rfl
  by_cases hn : m < 0
  · have ha : impl_abs m = some (m.natAbs : Int) := by
      unfold impl_abs
      rw [if_pos (by simpa using hn), wrap_i64 (by omega) (by omega)]
      congr 1; omega
    obtain ⟨d1, d2⟩ := hd _ rfl
    rw [if_pos (by simpa using hn), ha]
    simp only [Option.bind_some, d1, d2, hD, hp]
    rw [nz_of (by decide), ck_true, catOk_of (by simp; omega), ck_true, catOk_of (by simp; omega), ck_true, catOk_of (by simp; omega), ck_true]
    unfold magT
    rw [if_pos hn]
  · have ha : impl_abs m = some (m.natAbs : Int) := by
      unfold impl_abs
      rw [if_neg (by simpa using hn)]
      congr 1; omega
    obtain ⟨d1, d2⟩ := hd _ rfl
    rw [if_neg (by simpa using hn), ha]
    simp only [Option.bind_some, d1, d2, hD, hp]
    rw [nz_of (by decide), ck_true, catOk_of (by simp; omega), ck_true, catOk_of (by simp; omega), ck_true, catOk_of (by simp; omega), ck_true]
    unfold magT
    rw [if_neg hn]

/-- What is cut off in front. -/
def cutP (c : UInt8) : List UInt8 → List UInt8 × Bool
  | [] => ([], false)
  | x :: r => if x = c then (r, true) else (x :: r, false)

theorem CutPrefix_is (c : UInt8) {s : List UInt8} (hl : s.length ≤ 9223372036854775807) : strings_CutPrefix s [c] = some (cutP c s) := by
  unfold strings_CutPrefix internal_stringslite_CutPrefix internal_stringslite_HasPrefix
  cases s with
  | nil => simp [cutP, ck_true]
  | cons x r =>
    have e1 : decide ((([c] : List UInt8).length : Int) ≤ ((x :: r).length : Int)) = true := decide_eq_true (by simp; omega)
    have e2 : cut (x :: r) 0 (([c] : List UInt8).length : Int) = [x] := by simp [cut]
    have e3 : cut (x :: r) (([c] : List UInt8).length : Int) ((x :: r).length : Int) = r := by
      unfold cut
      simp only [Int.toNat_natCast, List.take_length]; rfl
    rw [e1, e2, cutOk_of (by omega) (by simp) (by simp; omega)]
    simp only [Bool.not_true, Bool.false_or, ck_true, Option.bind_some, Bool.true_and]
    by_cases hx : x = c
    · have e4 : (([x] : List UInt8) == [c]) = true := by rw [beq_iff_eq, hx]
      rw [e4]
      simp only [Bool.not_true, Bool.false_eq_true, if_false]
      rw [cutOk_of (by simp) (by simp; omega) (by simp), ck_true, e3]
      simp [cutP, hx]
    · have e4 : (([x] : List UInt8) == [c]) = false := by rw [beq_eq_false_iff_ne]; intro e; exact hx (by simpa using e)
      rw [e4]
      simp [cutP, hx]

theorem digV : ∀ k : Fin 10, IntKind.i64.wrap (IntKind.u8.wrap (((dg k.val).toNat : Int) - 48)) = (k.val : Int) := by decide +kernel

theorem mag_loop (s : List UInt8) (neg : Bool) {w q : Nat} (hw : w ≤ 20) (hq : q ≤ 999) : whileE (impl_ReadMag_l1 s neg (d3 q) [100, 10, 1] (([100, 10, 1] : List Int).length : Int)) (((w * 1000 : Nat) : Int), 0) = some ((w * 1000 + q : Nat) : Int) := by
  have v0 := digV ⟨q / 100, by omega⟩
  have v1 := digV ⟨q / 10 % 10, by omega⟩
  have v2 := digV ⟨q % 10, by omega⟩
  dsimp only at v0 v1 v2
  have s0 : impl_ReadMag_l1 s neg (d3 q) [100, 10, 1] (([100, 10, 1] : List Int).length : Int) (((w * 1000 : Nat) : Int), 0) = some (.inl (((w * 1000 + 100 * (q / 100) : Nat) : Int), 1)) := by
    have g : (d3 q).getD (0 : Int).toNat 0 = dg (q / 100) := rfl
    simp only [impl_ReadMag_l1, g, v0]
    rw [if_pos (by decide), show ixOk 0 ([100, 10, 1] : List Int).length = true from rfl, ck_true, show ixOk 0 (d3 q).length = true from rfl, ck_true]
    rw [show (([100, 10, 1] : List Int).getD (0 : Int).toNat default) = 100 from rfl, wrap_i64 (n := 100 * ((q / 100 : Nat) : Int)) (by omega) (by omega), wrap_i64 (by omega) (by omega), show IntKind.i64.wrap ((0 : Int) + 1) = 1 from rfl]
    simp
  have s1 : impl_ReadMag_l1 s neg (d3 q) [100, 10, 1] (([100, 10, 1] : List Int).length : Int) (((w * 1000 + 100 * (q / 100) : Nat) : Int), 1) = some (.inl (((w * 1000 + 100 * (q / 100) + 10 * (q / 10 % 10) : Nat) : Int), 2)) := by
    have g : (d3 q).getD (1 : Int).toNat 0 = dg (q / 10 % 10) := rfl
    simp only [impl_ReadMag_l1, g, v1]
    rw [if_pos (by decide), show ixOk 1 ([100, 10, 1] : List Int).length = true from rfl, ck_true, show ixOk 1 (d3 q).length = true from rfl, ck_true]
    rw [show (([100, 10, 1] : List Int).getD (1 : Int).toNat default) = 10 from rfl, wrap_i64 (n := 10 * ((q / 10 % 10 : Nat) : Int)) (by omega) (by omega), wrap_i64 (by omega) (by omega), show IntKind.i64.wrap ((1 : Int) + 1) = 2 from rfl]
    simp
  have s2 : impl_ReadMag_l1 s neg (d3 q) [100, 10, 1] (([100, 10, 1] : List Int).length : Int) (((w * 1000 + 100 * (q / 100) + 10 * (q / 10 % 10) : Nat) : Int), 2) = some (.inl (((w * 1000 + q : Nat) : Int), 3)) := by
    have g : (d3 q).getD (2 : Int).toNat 0 = dg (q % 10) := rfl
    simp only [impl_ReadMag_l1, g, v2]
    rw [if_pos (by decide), show ixOk 2 ([100, 10, 1] : List Int).length = true from rfl, ck_true, show ixOk 2 (d3 q).length = true from rfl, ck_true]
    rw [show (([100, 10, 1] : List Int).getD (2 : Int).toNat default) = 1 from rfl, wrap_i64 (n := 1 * ((q % 10 : Nat) : Int)) (by omega) (by omega), wrap_i64 (by omega) (by omega), show IntKind.i64.wrap ((2 : Int) + 1) = 3 from rfl, show ((w * 1000 + 100 * (q / 100) + 10 * (q / 10 % 10) : Nat) : Int) + 1 * ((q % 10 : Nat) : Int) = ((w * 1000 + q : Nat) : Int) by omega]
  rw [whileE_next s0, whileE_next s1, whileE_next s2]
  refine whileE_done ?_
  simp only [impl_ReadMag_l1]
  rw [if_neg (by decide)]

theorem ReadMag_is {m : Int} (h0 : -2000 ≤ m) (h1 : m ≤ 20000) : impl_ReadMag (magT m) = some (m, true) := by
  have hl := magT_len h0 h1
  have hdl := decDigits_len (u := m.natAbs / 1000) (by omega)
  obtain ⟨c0, r0, hc, hcd⟩ := decDigits_cons (m.natAbs / 1000)
  have hM := MagText_is h0 h1
  have hcp : cutP 45 (magT m) = (Lib.decDigits (m.natAbs / 1000) ++ 46 :: d3 (m.natAbs % 1000), decide (m < 0)) := by
    unfold magT
    by_cases hn : m < 0
    · rw [if_pos hn]; simp [cutP, hn]
    · have hx := not_dig (c := 45) hcd (.inl (by decide))
      rw [if_neg hn, hc]; simp [cutP, hn, hx]
  have hno : (46 : UInt8) ∉ Lib.decDigits (m.natAbs / 1000) := fun hc => not_dig (c := 46) (decDigits_all _ _ hc) (.inl (by decide)) rfl
  unfold impl_ReadMag hCut hRdDec
  rw [CutPrefix_is 45 (by omega), hcp]
  simp only [Option.bind_some]
  rw [if_pos (by simp [d3]; omega), cut_yes hno]
  simp only [Option.bind_some]
  rw [if_pos (by omega), ← itoa_nat, rdDec_any (by omega) (by omega)]
  simp only [Option.bind_some, impl_in_is, Option.isSome_some, Option.getD_some, Bool.or_true, ck_true]
  have e1 : (decide ((0 : Int) ≤ ((m.natAbs / 1000 : Nat) : Int)) && decide (((m.natAbs / 1000 : Nat) : Int) ≤ 20)) = true := by simp; omega
  have e2 : (((d3 (m.natAbs % 1000)).length : Int) == 3) = true := rfl
  rw [e1, e2]
  simp only [Bool.not_true, Bool.or_self, Bool.false_eq_true, if_false]
  have e3 : IntKind.i64.wrap (((m.natAbs / 1000 : Nat) : Int) * 1000) = ((m.natAbs / 1000 * 1000 : Nat) : Int) := by rw [wrap_i64 (by omega) (by omega)]; omega
  rw [e3, mag_loop (magT m) _ (by omega) (by omega)]
  have e4 : m.natAbs / 1000 * 1000 + m.natAbs % 1000 = m.natAbs := by omega
  rw [e4]
  simp only [Option.bind_some]
  by_cases hn : m < 0
  · have e5 : IntKind.i64.wrap (0 - (m.natAbs : Int)) = m := by rw [wrap_i64 (by omega) (by omega)]; omega
    simp only [hn, decide_true, if_true, e5, hM, Option.bind_some, beq_self_eq_true, Bool.not_true, Bool.false_eq_true, if_false]
  · have e5 : (m.natAbs : Int) = m := by omega
    simp only [hn, decide_false, Bool.false_eq_true, if_false, e5, hM, Option.bind_some, beq_self_eq_true, Bool.not_true]

end Go.Proofs.YtpnomhinhcochaaGreatDoor

