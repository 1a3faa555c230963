/- Plain lemmas, several texts in one. No condition. -/
import Derived.Test.YtlcabohpeopdcaaGreatDoorEngTD
import Derived.Test.YtlcabohpeopdcaaGreatDoorLGL
import Derived.Test.YtlcabohpeopdcaaGreatDoorEngSH
import Derived.Test.YtlcabohpeopdcaaGreatDoorEngSI
/- Plain loops: the first place, what is kept, what holds of some. No condition. -/
namespace Go.Proofs.YtlcabohpeopdcaaGreatDoor
open Go Go.RowKit
set_option linter.unusedSimpArgs false
set_option linter.unusedVariables false

/-- The first place where p holds. -/
theorem while_find {ρ : Type} {step : Int → Option (Int ⊕ (Unit ⊕ ρ))} (p : Nat → Bool) (g : Nat → ρ) (n : Nat)
    (hs : ∀ i, i < n → step (i : Int) = some (if p i = true then .inr (.inr (g i)) else .inl ((i + 1 : Nat) : Int))) (he : step (n : Int) = some (.inr (.inl ()))) :
    whileE step 0 = some (match (List.range n).find? p with | some j => .inr (g j) | none => .inl ()) := by
  have key : ∀ m i : Nat, i + m = n → (∀ k, k < i → p k = false) → whileE step (i : Int) = some (match (List.range n).find? p with | some j => .inr (g j) | none => .inl ()) := by
    intro m
    induction m with
    | zero =>
      intro i hi hk
      obtain rfl : i = n := by omega
      rw [whileE_done he]
      have : (List.range i).find? p = none := by
        rw [List.find?_eq_none]
        intro x hx; rw [hk x (by simpa using hx)]; exact Bool.false_ne_true
      rw [this]
    | succ m ih =>
      intro i hi hk
      have hlt : i < n := by omega
      by_cases hp : p i = true
      · rw [whileE_done (by rw [hs i hlt, if_pos hp])]
        have : (List.range n).find? p = some i := by
          rw [List.find?_range_eq_some]
          exact ⟨hp, by simpa using hlt, fun j hj => by simp [hk j hj]⟩
        rw [this]
      · rw [whileE_next (by rw [hs i hlt, if_neg hp])]
        refine ih (i + 1) (by omega) fun k hk2 => ?_
        rcases Nat.lt_or_ge k i with c | c
        · exact hk k c
        · obtain rfl : k = i := by omega
          simpa using hp
  exact key n 0 (by omega) fun k hk => by omega

theorem find_any {α : Type} [Inhabited α] (xs : List α) (f : α → Bool) : ((List.range xs.length).find? fun i => f (xs.getD i default)).isSome = xs.any f := by
  rw [Bool.eq_iff_iff, List.find?_isSome, List.any_eq_true]
  constructor
  · rintro ⟨i, hi, hf⟩
    have hi' : i < xs.length := by simpa using hi
    exact ⟨_, getD_mem hi' default, hf⟩
  · rintro ⟨x, hx, hf⟩
    obtain ⟨i, hi, rfl⟩ := List.getElem_of_mem hx
    exact ⟨i, by simpa using hi, by rw [getD_lt hi]; exact hf⟩

/-- What is kept of a list, in its order. -/
def keptTo {α β : Type} (p : Nat → Bool) (x : Nat → β) (n : Nat) : List β := ((List.range n).filter p).map x

theorem keptTo_succ {β : Type} (p : Nat → Bool) (x : Nat → β) (n : Nat) : keptTo (α := β) p x (n + 1) = if p n = true then keptTo (α := β) p x n ++ [x n] else keptTo (α := β) p x n := by
  unfold keptTo
  rw [List.range_succ, List.filter_append, List.map_append]
  by_cases h : p n = true
  · simp [h]
  · simp [h]

theorem keptTo_len {β : Type} (p : Nat → Bool) (x : Nat → β) (n : Nat) : (keptTo (α := β) p x n).length ≤ n := by
  unfold keptTo
  rw [List.length_map]
  exact Nat.le_trans (List.length_filter_le _ _) (by simp)

theorem while_keep {β ρ : Type} {step : List β × Int → Option ((List β × Int) ⊕ ρ)} (p : Nat → Bool) (x : Nat → β) (n : Nat) {r : ρ}
    (hs : ∀ (out : List β) (i : Nat), i < n → out.length ≤ i → step (out, (i : Int)) = some (.inl (if p i = true then out ++ [x i] else out, ((i + 1 : Nat) : Int))))
    (he : step (keptTo (α := β) p x n, (n : Int)) = some (.inr r)) : whileE step ([], 0) = some r := by
  exact while_up (step := step) (fun i => keptTo (α := β) p x i) n (r := r) (fun i hi => by rw [hs _ i hi (keptTo_len _ _ _), keptTo_succ]) he

end Go.Proofs.YtlcabohpeopdcaaGreatDoor

/- What typed forms say: names (the program). No condition. -/
namespace Go.Proofs.YtlcabohpeopdcaaGreatDoor
open Go Go.RowKit
set_option linter.unusedSimpArgs false
set_option linter.unusedVariables false

def okc (first : Bool) (c : UInt8) : Bool := (decide (97 ≤ c.toNat) && decide (c.toNat ≤ 122)) || (!first && ((decide (48 ≤ c.toNat) && decide (c.toNat ≤ 57)) || c.toNat == 45))

def nameB (s : List UInt8) : Bool := decide (1 ≤ s.length) && (decide (s.length ≤ 12) && ((List.range s.length).all fun i => okc (i == 0) (s.getD i 0)))

theorem all_range {n : Nat} {p : Nat → Bool} : ((List.range n).all p = true) ↔ ∀ i, i < n → p i = true := by simp

theorem okc_core (c : UInt8) (i : Nat) : (!((decide ((97 : Int) ≤ (c.toNat : Int))) && (decide ((c.toNat : Int) ≤ 122))) && (((i : Int) == 0) || (!(((decide ((48 : Int) ≤ (c.toNat : Int))) && (decide ((c.toNat : Int) ≤ 57))) || ((c.toNat : Int) == 45))))) = !okc (i == 0) c := by
  have b1 : decide ((97 : Int) ≤ (c.toNat : Int)) = decide (97 ≤ c.toNat) := by rw [decide_eq_decide]; omega
  have b2 : decide ((c.toNat : Int) ≤ 122) = decide (c.toNat ≤ 122) := by rw [decide_eq_decide]; omega
  have b3 : decide ((48 : Int) ≤ (c.toNat : Int)) = decide (48 ≤ c.toNat) := by rw [decide_eq_decide]; omega
  have b4 : decide ((c.toNat : Int) ≤ 57) = decide (c.toNat ≤ 57) := by rw [decide_eq_decide]; omega
  have b5 : ((c.toNat : Int) == 45) = (c.toNat == 45) := by rw [Bool.eq_iff_iff]; simp; omega
  have b6 : ((i : Int) == 0) = (i == 0) := by rw [Bool.eq_iff_iff]; simp
  rw [b1, b2, b3, b4, b5, b6]
  unfold okc
  cases decide (97 ≤ c.toNat) <;> cases decide (c.toNat ≤ 122) <;> cases decide (48 ≤ c.toNat) <;> cases decide (c.toNat ≤ 57) <;> cases (c.toNat == 45) <;> cases (i == 0) <;> rfl

theorem okc_core2 (c : UInt8) : (((!(decide (97 ≤ c.toNat) && decide (c.toNat ≤ 122))) && (!(decide (48 ≤ c.toNat) && decide (c.toNat ≤ 57)))) && (!((c.toNat : Int) == 45))) = !okc false c := by
  have b5 : ((c.toNat : Int) == 45) = (c.toNat == 45) := by rw [Bool.eq_iff_iff]; simp; omega
  rw [b5]
  unfold okc
  cases decide (97 ≤ c.toNat) <;> cases decide (c.toNat ≤ 122) <;> cases decide (48 ≤ c.toNat) <;> cases decide (c.toNat ≤ 57) <;> cases (c.toNat == 45) <;> rfl

theorem impl_IsName_is (s : List UInt8) : impl_IsName s = some (nameB s) := by
  unfold impl_IsName
  by_cases h : ((s.length : Int) < 1) ∨ ((12 : Int) < s.length)
  · have h1 : ((decide ((s.length : Int) < 1)) || (decide ((12 : Int) < (s.length : Int)))) = true := by simpa using h
    have h2 : nameB s = false := by unfold nameB; by_cases a : 1 ≤ s.length <;> by_cases b : s.length ≤ 12 <;> simp [a, b] <;> omega
    simp only [h1, if_true, h2]
  · have h1 : ((decide ((s.length : Int) < 1)) || (decide ((12 : Int) < (s.length : Int)))) = false := by simpa using h
    simp only [h1, Bool.false_eq_true, if_false]
    rw [while_all (step := impl_IsName_l1 s (s.length : Int)) (fun i => okc (i == 0) (s.getD i 0)) s.length ((List.range s.length).all fun i => okc (i == 0) (s.getD i 0)) (yes := .inl ()) (no := .inr false) all_range]
    · have a1 : 1 ≤ s.length := by omega
      have a2 : s.length ≤ 12 := by omega
      unfold nameB
      simp only [a1, a2, decide_true, Bool.true_and]
      cases ((List.range s.length).all fun i => okc (i == 0) (s.getD i 0)) <;> rfl
    · intro i hi
      simp only [impl_IsName_l1, Int.ofNat_lt, hi, decide_true, if_true, ixOk_nat, ck_true, Int.toNat_natCast, wrap_nat1 (show i < 9223372036854775807 by omega)]
      rw [okc_core]
      cases okc (i == 0) (s.getD i 0) <;> rfl
    · simp [impl_IsName_l1]

end Go.Proofs.YtlcabohpeopdcaaGreatDoor

/- What typed forms say: names (the reference). No condition. -/
namespace Go.Proofs.YtlcabohpeopdcaaGreatDoor
open Go Go.RowKit
set_option linter.unusedSimpArgs false
set_option linter.unusedVariables false

theorem spec_l01Small_is (c : UInt8) : spec_l01Small c = some (decide (97 ≤ c.toNat) && decide (c.toNat ≤ 122)) := by
  have h1 : ((97 : Int) ≤ (c.toNat : Int)) ↔ 97 ≤ c.toNat := by omega
  have h2 : ((c.toNat : Int) ≤ 122) ↔ c.toNat ≤ 122 := by omega
  simp [spec_l01Small, h1, h2]
theorem spec_l01Digit_is (c : UInt8) : spec_l01Digit c = some (decide (48 ≤ c.toNat) && decide (c.toNat ≤ 57)) := by
  have h1 : ((48 : Int) ≤ (c.toNat : Int)) ↔ 48 ≤ c.toNat := by omega
  have h2 : ((c.toNat : Int) ≤ 57) ↔ c.toNat ≤ 57 := by omega
  simp [spec_l01Digit, h1, h2]

/-- A name: one to twelve letters, digits and dashes, the first one a letter. -/
theorem spec_IsName_is (s : List UInt8) : spec_IsName s = some (nameB s) := by
  unfold spec_IsName
  by_cases h : s.length = 0 ∨ 12 < s.length
  · have h1 : ((s == ([] : List UInt8)) || (decide ((12 : Int) < (s.length : Int)))) = true := by
      rcases h with h | h
      · have : s = [] := List.eq_nil_of_length_eq_zero h
        simp [this]
      · simp; right; omega
    have h2 : nameB s = false := by unfold nameB; by_cases a : 1 ≤ s.length <;> by_cases b : s.length ≤ 12 <;> simp [a, b] <;> omega
    simp only [h1, h2, Bool.not_true, Bool.not_false, Bool.true_or, ck_true, if_true]
  · have h1 : ((s == ([] : List UInt8)) || (decide ((12 : Int) < (s.length : Int)))) = false := by
      rw [Bool.or_eq_false_iff]
      refine ⟨?_, by simp; omega⟩
      rw [beq_eq_false_iff_ne]; rintro rfl; simp at h
    have hi0 : ixOk 0 s.length = true := ixOk_of (by omega) (by omega)
    simp only [h1, hi0, spec_l01Small_is, Option.isSome_some, Option.getD_some, Bool.or_true, ck_true, Bool.false_or]
    by_cases hf : (decide (97 ≤ (s.getD 0 0).toNat) && decide ((s.getD 0 0).toNat ≤ 122)) = true
    · rw [hf]
      simp only [Bool.not_true, Bool.false_eq_true, if_false]
      rw [while_all (step := spec_IsName_l1 s) (fun i => okc false (s.getD i 0)) s.length ((List.range s.length).all fun i => okc (i == 0) (s.getD i 0)) (yes := .inl ()) (no := .inr false)]
      · have a1 : 1 ≤ s.length := by omega
        have a2 : s.length ≤ 12 := by omega
        unfold nameB
        simp only [a1, a2, decide_true, Bool.true_and]
        cases ((List.range s.length).all fun i => okc (i == 0) (s.getD i 0)) <;> rfl
      · rw [all_range]
        refine forall_congr' fun i => forall_congr' fun hi => ?_
        by_cases e : i = 0
        · subst e; simp only [okc, hf, Bool.true_or]
        · have : (i == 0) = false := by simpa using e
          rw [this]
      · intro i hi
        simp only [spec_IsName_l1, Int.ofNat_lt, hi, decide_true, if_true, ixOk_nat, ck_true, Int.toNat_natCast, wrap_nat1 (show i < 9223372036854775807 by omega), spec_l01Small_is, spec_l01Digit_is, Option.bind_some, Option.isSome_some, Option.getD_some, Bool.or_true]
        rw [okc_core2]
        cases okc false (s.getD i 0) <;> rfl
      · simp [spec_IsName_l1]
    · have hf' : (decide (97 ≤ (s.getD 0 0).toNat) && decide ((s.getD 0 0).toNat ≤ 122)) = false := by simpa using hf
      rw [hf']
      have : nameB s = false := by
        unfold nameB
        have : ((List.range s.length).all fun i => okc (i == 0) (s.getD i 0)) = false := by
          cases hq : ((List.range s.length).all fun i => okc (i == 0) (s.getD i 0)) with
          | false => rfl
          | true =>
            have := all_range.1 hq 0 (by omega)
            simp only [okc, hf', beq_self_eq_true, Bool.not_true, Bool.false_and, Bool.or_false, Bool.false_eq_true] at this
        simp only [this, Bool.and_false]
      rw [this]; rfl

end Go.Proofs.YtlcabohpeopdcaaGreatDoor

/- What typed forms say: decimal numerals. No condition. -/
namespace Go.Proofs.YtlcabohpeopdcaaGreatDoor
open Go Go.RowKit
set_option linter.unusedSimpArgs false
set_option linter.unusedVariables false

theorem nDigits_le : ∀ (k u : Nat), u < 10 ^ (k + 1) → Lib.nDigits u ≤ k + 1
  | 0, u, h => by rw [Lib.nDigits_small (by simpa using h)]; omega
  | k + 1, u, h => by
    by_cases c : u < 10
    · rw [Lib.nDigits_small c]; omega
    · rw [Lib.nDigits_big c]
      have := nDigits_le k (u / 10) (by rw [Nat.pow_succ] at h; omega)
      omega

theorem decDigits_len {u : Nat} (h : u ≤ 9223372036854775808) : (Lib.decDigits u).length ≤ 20 := by
  rw [Lib.decDigits_length]
  exact nDigits_le 19 u (by omega)

theorem decDigits_ne (u : Nat) : 1 ≤ (Lib.decDigits u).length := by
  rw [Lib.decDigits_length]; exact Lib.nDigits_pos u

theorem itoa_len {n : Int} (h : R64 n) : (Lib.itoa n).length ≤ 21 := by
  obtain ⟨h1, h2⟩ := h
  unfold Lib.itoa
  split
  · have := decDigits_len (u := n.natAbs) (by omega)
    simp; omega
  · have := decDigits_len (u := n.toNat) (by omega)
    omega

theorem digit_u8 {d : Nat} (h : d < 10) : toU8 (IntKind.u8.wrap (IntKind.i64.wrap (48 + (d : Int)))) = UInt8.ofNat (48 + d) := by
  have : d = 0 ∨ d = 1 ∨ d = 2 ∨ d = 3 ∨ d = 4 ∨ d = 5 ∨ d = 6 ∨ d = 7 ∨ d = 8 ∨ d = 9 := by omega
  rcases this with rfl | rfl | rfl | rfl | rfl | rfl | rfl | rfl | rfl | rfl <;> decide +kernel

def decInv (n : Int) (m : Nat) (s : List UInt8 × Int) : Prop :=
  ∃ u : Nat, s.2 = (if n < 0 then -(u : Int) else (u : Int)) ∧ u ≤ m ∧ (if u = 0 then s.1 = Lib.decDigits m else Lib.decDigits m = Lib.decDigits u ++ s.1)

theorem dec_step {n : Int} {m : Nat} (hm : m ≤ 9223372036854775808) {out : List UInt8} {u : Nat} (hu : u ≤ m) (h0 : u ≠ 0) (h : Lib.decDigits m = Lib.decDigits u ++ out) :
    spec_l01Dec_l1 n (out, if n < 0 then -(u : Int) else (u : Int)) = some (.inl (UInt8.ofNat (48 + u % 10) :: out, if n < 0 then -((u / 10 : Nat) : Int) else ((u / 10 : Nat) : Int))) ∧
    (if u / 10 = 0 then UInt8.ofNat (48 + u % 10) :: out = Lib.decDigits m else Lib.decDigits m = Lib.decDigits (u / 10) ++ UInt8.ofNat (48 + u % 10) :: out) := by
  have hl : out.length ≤ 20 := by
    have := decDigits_len hm
    rw [h, List.length_append] at this; omega
  constructor
  · have t1 : ((u : Int)).tmod 10 = ((u % 10 : Nat) : Int) := by rw [Int.tmod_eq_emod_of_nonneg (by omega)]; omega
    have t2 : ((u : Int)).tdiv 10 = ((u / 10 : Nat) : Int) := by rw [Int.tdiv_eq_ediv_of_nonneg (by omega)]; omega
    have w : IntKind.i64.wrap ((u % 10 : Nat) : Int) = ((u % 10 : Nat) : Int) := wrap_i64 (by omega) (by omega)
    have ha : appOk (([UInt8.ofNat (48 + u % 10)] : List UInt8).length + out.length) 1 = true := appOk_of (by simp; omega)
    by_cases hn : n < 0
    · have k0 : ((-(u : Int)) == 0) = false := by rw [beq_eq_false_iff_ne]; omega
      have w2 : IntKind.i64.wrap (-((u / 10 : Nat) : Int)) = -((u / 10 : Nat) : Int) := wrap_i64 (by omega) (by omega)
      simp only [spec_l01Dec_l1, hn, if_true, k0, Bool.not_false, nz_of (show (10 : Int) ≠ 0 by decide), ck_true, Int.neg_tmod, Int.neg_tdiv, t1, t2, w2]
      by_cases hd : u % 10 = 0
      · have e : ¬ (-(((u % 10 : Nat)) : Int) < 0) := by omega
        simp only [e, decide_false, Bool.false_eq_true, if_false]
        have e2 : (-((u % 10 : Nat) : Int)) = ((u % 10 : Nat) : Int) := by omega
        rw [e2, digit_u8 (Nat.mod_lt _ (by omega)), ha, ck_true]; rfl
      · have e : (-(((u % 10 : Nat)) : Int) < 0) := by omega
        have e2 : (0 - -((u % 10 : Nat) : Int)) = ((u % 10 : Nat) : Int) := by omega
        simp only [e, decide_true, if_true, e2, w]
        rw [digit_u8 (Nat.mod_lt _ (by omega)), ha, ck_true]; rfl
    · have k0 : ((u : Int) == 0) = false := by rw [beq_eq_false_iff_ne]; omega
      have w2 : IntKind.i64.wrap ((u / 10 : Nat) : Int) = ((u / 10 : Nat) : Int) := wrap_i64 (by omega) (by omega)
      have e : ¬ ((((u % 10 : Nat)) : Int) < 0) := by omega
      simp only [spec_l01Dec_l1, hn, if_false, k0, Bool.not_false, if_true, nz_of (show (10 : Int) ≠ 0 by decide), ck_true, t1, t2, w2, e, decide_false, Bool.false_eq_true]
      rw [digit_u8 (Nat.mod_lt _ (by omega)), ha, ck_true]; rfl
  · by_cases c : u < 10
    · have e : u / 10 = 0 := by omega
      rw [if_pos e, h, Lib.decDigits_one c, Nat.mod_eq_of_lt c]; rfl
    · have e : ¬ u / 10 = 0 := by omega
      rw [if_neg e, h, Lib.decDigits, dif_neg c, List.append_assoc]; rfl

theorem l01Dec_is {n : Int} (hr : R64 n) : spec_l01Dec n = some (Lib.itoa n) := by
  obtain ⟨h1, h2⟩ := hr
  by_cases h0 : n = 0
  · subst h0
    unfold spec_l01Dec
    rw [whileE_done (r := ([] : List UInt8)) (by simp [spec_l01Dec_l1])]
    simp [Lib.itoa, Lib.decDigits]
  · obtain ⟨m, hm, hm0, hmn⟩ : ∃ m : Nat, m ≤ 9223372036854775808 ∧ m ≠ 0 ∧ n = (if n < 0 then -(m : Int) else (m : Int)) := by
      by_cases hn : n < 0
      · exact ⟨n.natAbs, by omega, by omega, by rw [if_pos hn]; omega⟩
      · exact ⟨n.toNat, by omega, by omega, by rw [if_neg hn]; omega⟩
    have hw : whileE (spec_l01Dec_l1 n) (([] : List UInt8), n) = some (Lib.decDigits m) := by
      obtain ⟨y, hy, hq⟩ := while_post (step := spec_l01Dec_l1 n) (decInv n m) (fun y => y = Lib.decDigits m) (fun s => s.2.natAbs) (by
        rintro ⟨out, k⟩ ⟨u, hk, hu, hd⟩
        simp only at hk hd
        subst hk
        by_cases hu0 : u = 0
        · subst hu0
          right
          rw [if_pos rfl] at hd
          refine ⟨out, ?_, hd⟩
          split <;> simp [spec_l01Dec_l1]
        · left
          rw [if_neg hu0] at hd
          obtain ⟨e1, e2⟩ := dec_step (n := n) hm hu hu0 hd
          refine ⟨_, e1, ⟨u / 10, rfl, by omega, e2⟩, ?_⟩
          show Int.natAbs (if n < 0 then _ else _) < Int.natAbs (if n < 0 then _ else _)
          split <;> omega) (s := (([] : List UInt8), n)) ⟨m, hmn, Nat.le_refl _, by rw [if_neg hm0, List.append_nil]⟩
      rw [hy, hq]
    unfold spec_l01Dec
    rw [hw]
    have hl1 := decDigits_ne m
    have hl2 := decDigits_len hm
    have e : (((Lib.decDigits m).length : Int) == 0) = false := by rw [beq_eq_false_iff_ne]; omega
    simp only [Option.bind_some, e, Bool.false_eq_true, if_false]
    unfold Lib.itoa
    by_cases hn : n < 0
    · rw [if_pos hn] at hmn
      have e2 : n.natAbs = m := by omega
      simp only [hn, decide_true, if_true, e2]
      rw [catOk_of (by simp; omega), ck_true]; rfl
    · rw [if_neg hn] at hmn
      have e2 : n.toNat = m := by omega
      simp [hn, e2]

theorem Decimal_is {n : Int} (hr : R64 n) : impl_Decimal n = some (Lib.itoa n) := by
  obtain ⟨h1, h2⟩ := hr
  unfold impl_Decimal strconv_FormatInt hFmt
  simp [h1, h2]

end Go.Proofs.YtlcabohpeopdcaaGreatDoor

/- Plain texts: splitting, cutting, decimal numerals. No condition. -/
namespace Go.Proofs.YtlcabohpeopdcaaGreatDoor
open Go Go.RowKit
set_option linter.unusedSimpArgs false
set_option linter.unusedVariables false

/-! ### Parts of a text -/

def splitAcc (c : UInt8) : List UInt8 → List UInt8 → List (List UInt8)
  | acc, [] => [acc]
  | acc, x :: r => if x = c then acc :: splitAcc c [] r else splitAcc c (acc ++ [x]) r

def splitOn (c : UInt8) (s : List UInt8) : List (List UInt8) := splitAcc c [] s

theorem splitAcc_no {c : UInt8} : ∀ {s acc : List UInt8}, c ∉ s → splitAcc c acc s = [acc ++ s]
  | [], acc, _ => by simp [splitAcc]
  | x :: r, acc, h => by
    have hx : x ≠ c := fun e => h (by simp [e])
    rw [splitAcc, if_neg hx, splitAcc_no (fun hm => h (by simp [hm])), List.append_assoc]; rfl

theorem splitAcc_app {c : UInt8} : ∀ {a acc b : List UInt8}, c ∉ a → splitAcc c acc (a ++ c :: b) = (acc ++ a) :: splitAcc c [] b
  | [], acc, b, _ => by simp [splitAcc]
  | x :: r, acc, b, h => by
    have hx : x ≠ c := fun e => h (by simp [e])
    rw [List.cons_append, splitAcc, if_neg hx, splitAcc_app (fun hm => h (by simp [hm])), List.append_assoc]; rfl

theorem splitAcc_ne (c : UInt8) : ∀ s acc : List UInt8, splitAcc c acc s ≠ []
  | [], acc => by simp [splitAcc]
  | x :: r, acc => by
    rw [splitAcc]
    split
    · simp
    · exact splitAcc_ne c r _

theorem splitAcc_len (c : UInt8) : ∀ s acc : List UInt8, 1 ≤ (splitAcc c acc s).length ∧ (splitAcc c acc s).length ≤ s.length + 1
  | [], acc => by simp [splitAcc]
  | x :: r, acc => by
    rw [splitAcc]
    split
    · have := splitAcc_len c r []
      simp only [List.length_cons]; omega
    · have := splitAcc_len c r (acc ++ [x])
      simp only [List.length_cons]; omega

/-- The parts of a text, put together again. -/
def joinOn (c : UInt8) : List (List UInt8) → List UInt8
  | [] => []
  | [a] => a
  | a :: b :: r => a ++ c :: joinOn c (b :: r)

theorem join_splitAcc (c : UInt8) : ∀ s acc : List UInt8, joinOn c (splitAcc c acc s) = acc ++ s
  | [], acc => by simp [splitAcc, joinOn]
  | x :: r, acc => by
    rw [splitAcc]
    split
    · rename_i e
      have h := join_splitAcc c r []
      cases hs : splitAcc c [] r with
      | nil => exact absurd hs (splitAcc_ne c r [])
      | cons b t => rw [hs] at h; rw [joinOn, h, e]; rfl
    · rw [join_splitAcc c r (acc ++ [x]), List.append_assoc]; rfl

theorem part_free (c : UInt8) : ∀ {s acc : List UInt8}, c ∉ acc → ∀ p ∈ splitAcc c acc s, c ∉ p
  | [], acc, h, p, hp => by simp [splitAcc] at hp; rw [hp]; exact h
  | x :: r, acc, h, p, hp => by
    rw [splitAcc] at hp
    split at hp
    · rcases List.mem_cons.1 hp with e | hp
      · rw [e]; exact h
      · exact part_free c (by simp) p hp
    · rename_i hx
      exact part_free c (by simp only [List.mem_append, List.mem_singleton, not_or]; exact ⟨h, fun e => hx e.symm⟩) p hp

theorem split_join (c : UInt8) : ∀ (l : List (List UInt8)), l ≠ [] → (∀ p ∈ l, c ∉ p) → splitOn c (joinOn c l) = l
  | [], h, _ => absurd rfl h
  | [a], _, h => by
    unfold splitOn joinOn
    rw [splitAcc_no (h a (by simp))]; rfl
  | a :: b :: r, _, h => by
    have ih := split_join c (b :: r) (by simp) (fun p hp => h p (by simp [hp]))
    unfold splitOn at ih ⊢
    rw [joinOn, splitAcc_app (h a (by simp)), ih]; rfl

/-! ### Where a byte stands -/

theorem idx_cases (c : UInt8) : ∀ s : List UInt8, (Lib.index s [c] = -1 ∧ c ∉ s) ∨ ∃ a b, s = a ++ c :: b ∧ c ∉ a ∧ Lib.index s [c] = a.length
  | [] => .inl ⟨by simp [Lib.index], by simp⟩
  | x :: r => by
    unfold Lib.index
    by_cases e : x = c
    · subst e
      exact .inr ⟨[], r, rfl, by simp, by simp⟩
    · have e1 : (List.isPrefixOf [c] (x :: r)) = false := by
        simp only [List.isPrefixOf, Bool.and_true, beq_eq_false_iff_ne]; exact fun h => e h.symm
      rw [e1]
      rcases idx_cases c r with ⟨h1, h2⟩ | ⟨a, b, rfl, h2, h3⟩
      · exact .inl ⟨by simp [h1], by simp only [List.mem_cons, not_or]; exact ⟨fun h => e h.symm, h2⟩⟩
      · refine .inr ⟨x :: a, b, rfl, by simp only [List.mem_cons, not_or]; exact ⟨fun h => e h.symm, h2⟩, ?_⟩
        rw [h3]
        have : (((a.length : Int)) == -1) = false := by rw [beq_eq_false_iff_ne]; omega
        simp [this]

theorem cut_no {c : UInt8} {s : List UInt8} (h : c ∉ s) : Lib.cut s [c] = (s, [], false) := by
  rcases idx_cases c s with ⟨h1, _⟩ | ⟨a, b, rfl, _, _⟩
  · unfold Lib.cut; rw [h1, if_neg (by decide)]
  · exact absurd (by simp) h

theorem cut_yes {c : UInt8} {a b : List UInt8} (h : c ∉ a) : Lib.cut (a ++ c :: b) [c] = (a, b, true) := by
  rcases idx_cases c (a ++ c :: b) with ⟨_, h2⟩ | ⟨a', b', e, h2, h3⟩
  · exact absurd (by simp) h2
  · have ha : a' = a ∧ b' = b := by
      have s1 := splitAcc_app (acc := []) (b := b) h
      have s2 := splitAcc_app (acc := []) (b := b') h2
      rw [e, s2] at s1
      have : [] ++ a' = [] ++ a := (List.cons.inj s1).1
      have hab : a' = a := by simpa using this
      subst hab
      exact ⟨rfl, ((List.cons.inj (List.append_cancel_left e)).2).symm⟩
    obtain ⟨rfl, rfl⟩ := ha
    unfold Lib.cut
    rw [h3, if_pos (by omega)]
    simp

theorem splitK_is (c : UInt8) : ∀ (k : Nat) (s : List UInt8), s.count c = k → Lib.splitK [c] 0 k s = splitOn c s := by
  intro k
  induction k with
  | zero =>
    intro s h
    have hc : c ∉ s := List.count_eq_zero.1 h
    unfold splitOn
    rw [splitAcc_no hc]; rfl
  | succ k ih =>
    intro s h
    rcases idx_cases c s with ⟨h1, h2⟩ | ⟨a, b, rfl, h2, h3⟩
    · rw [List.count_eq_zero.2 h2] at h; omega
    · unfold Lib.splitK
      have hne : ((a.length : Int) == -1) = false := by rw [beq_eq_false_iff_ne]; omega
      rw [h3]
      simp only [hne, Bool.false_eq_true, if_false]
      have hcnt : b.count c = k := by
        rw [List.count_append, List.count_eq_zero.2 h2, List.count_cons_self] at h; omega
      have e1 : (a ++ c :: b).take ((a.length : Int).toNat + 0) = a := by simp
      have e2 : (a ++ c :: b).drop ((a.length : Int).toNat + ([c] : List UInt8).length) = b := by simp
      unfold splitOn
      rw [splitAcc_app h2]
      first
        | rw [e1, e2, ih b hcnt]
        | (rw [e2, ih b hcnt]; simp [splitOn])
      rfl

theorem count_one (c : UInt8) : ∀ (f : Nat) (s : List UInt8), s.length < f → Lib.countFrom [c] f s = s.count c := by
  intro f
  induction f with
  | zero => intro s h; omega
  | succ f ih =>
    intro s h
    unfold Lib.countFrom
    rcases idx_cases c s with ⟨h1, h2⟩ | ⟨a, b, rfl, h2, h3⟩
    · simp [h1, List.count_eq_zero.2 h2]
    · have hne : ((a.length : Int) == -1) = false := by rw [beq_eq_false_iff_ne]; omega
      rw [h3]
      simp only [hne, Bool.false_eq_true, if_false]
      have e2 : (a ++ c :: b).drop ((a.length : Int).toNat + ([c] : List UInt8).length) = b := by simp
      rw [e2, ih b (by simp at h; omega), List.count_append, List.count_eq_zero.2 h2, List.count_cons_self]
      omega

theorem split_is (c : UInt8) (s : List UInt8) : Lib.split s [c] = splitOn c s := by
  unfold Lib.split Lib.count
  rw [count_one c _ s (by omega)]
  exact splitK_is c _ s rfl

theorem hSplit_one {c : UInt8} {s : List UInt8} (h : s.length < 4294967281) : hSplit s [c] = some (splitOn c s) := by
  unfold hSplit
  rw [split_is]
  simp [h]

theorem hCut_one {c : UInt8} {s : List UInt8} (h : s.length < 4294967281) : hCut s [c] = some (Lib.cut s [c]) := by
  unfold hCut; rw [if_pos h]

/-! ### Digits -/

def dig (c : UInt8) : Bool := decide (48 ≤ (c.toNat : Int)) && decide ((c.toNat : Int) ≤ 57)

theorem dig_iff {c : UInt8} : dig c = true ↔ 48 ≤ c.toNat ∧ c.toNat ≤ 57 := by
  unfold dig
  simp only [Bool.and_eq_true, decide_eq_true_eq]
  omega

def valF (n : Nat) (l : List UInt8) : Nat := l.foldl (fun n c => n * 10 + (c.toNat - 48)) n
theorem valF_nil (n : Nat) : valF n [] = n := by unfold valF; rw [List.foldl_nil]
theorem valF_cons (n : Nat) (c : UInt8) (r : List UInt8) : valF n (c :: r) = valF (n * 10 + (c.toNat - 48)) r := by unfold valF; rw [List.foldl_cons]

theorem valF_lt {l : List UInt8} : ∀ {n a : Nat}, n < 10 ^ a → l.all dig = true → valF n l < 10 ^ (a + l.length) := by
  induction l with
  | nil => intro n a h _; rw [valF_nil]; exact h
  | cons c r ih =>
    intro n a h hd
    simp only [List.all_cons, Bool.and_eq_true] at hd
    have hc := dig_iff.1 hd.1
    have h2 : n * 10 + (c.toNat - 48) < 10 ^ (a + 1) := by rw [Nat.pow_succ]; omega
    have := ih h2 hd.2
    rw [valF_cons, List.length_cons]
    rwa [Nat.add_assoc, Nat.add_comm 1] at this

theorem pow_small {k : Nat} (h : k ≤ 18) : (10 : Nat) ^ k ≤ 1000000000000000000 := Nat.pow_le_pow_right (by omega) h

/-- What the parsing of a text that is no numeral ends with. -/
def noNum := Lib.parseUintM 0 0 [0]

theorem parse_digits {l : List UInt8} : ∀ {n a : Nat}, n < 10 ^ a → a + l.length ≤ 18 → Lib.parseUintM (2 ^ 64 - 1) n l = if l.all dig = true then .ok (valF n l) else noNum := by
  induction l with
  | nil => intro n a _ _; simp [Lib.parseUintM, valF_nil]
  | cons c r ih =>
    intro n a h hl
    rw [List.length_cons] at hl
    have hp := pow_small (show a ≤ 18 by omega)
    have hp1 := pow_small (show a + 1 ≤ 18 by omega)
    rw [Lib.parseUintM]
    by_cases hc : 48 ≤ c.toNat ∧ c.toNat ≤ 57
    · have h2 : n * 10 + (c.toNat - 48) < 10 ^ (a + 1) := by rw [Nat.pow_succ]; omega
      rw [if_pos hc, if_neg (by omega), if_neg (by omega), ih h2 (by omega)]
      simp only [List.all_cons, dig_iff.2 hc, Bool.true_and, valF_cons]
    · rw [if_neg hc]
      have : dig c = false := by
        cases hd : dig c with
        | false => rfl
        | true => exact absurd (dig_iff.1 hd) hc
      simp only [List.all_cons, this, Bool.false_and, Bool.false_eq_true, if_false]
      rfl

theorem dec_dig : ∀ (k u : Nat), u < 10 ^ (k + 1) → (Lib.decDigits u).all dig = true
  | 0, u, h => by
    have h : u < 10 := by simpa using h
    rw [Lib.decDigits_one h]
    simp only [List.all_cons, List.all_nil, Bool.and_true, dig_iff, UInt8.toNat_ofNat']
    omega
  | k + 1, u, h => by
    by_cases c : u < 10
    · rw [Lib.decDigits_one c]
      simp only [List.all_cons, List.all_nil, Bool.and_true, dig_iff, UInt8.toNat_ofNat']
      omega
    · rw [Lib.decDigits, dif_neg c, List.all_append, dec_dig k (u / 10) (by rw [Nat.pow_succ] at h; omega)]
      simp only [List.all_cons, List.all_nil, Bool.and_true, Bool.true_and, dig_iff, UInt8.toNat_ofNat']
      omega

theorem dec_all (u : Nat) : (Lib.decDigits u).all dig = true := dec_dig u u (Nat.lt_of_lt_of_le (Nat.lt_pow_self (by omega)) (Nat.pow_le_pow_right (by omega) (by omega)))

theorem itoa_plus (n : Int) (r : List UInt8) : Lib.itoa n ≠ 43 :: r := by
  intro h
  unfold Lib.itoa at h
  split at h
  · have := (List.cons.inj h).1
    exact absurd this (by decide)
  · have := dec_all n.toNat
    rw [h] at this
    simp [dig] at this

theorem trim_minus (r : List UInt8) : Lib.trimPrefix (45 :: r) [45] = r := by simp [Lib.trimPrefix, Lib.hasPrefix]
theorem trim_other {c : UInt8} {r : List UInt8} (h : c ≠ 45) : Lib.trimPrefix (c :: r) [45] = c :: r := by
  unfold Lib.trimPrefix Lib.hasPrefix
  have : (List.isPrefixOf [45] (c :: r)) = false := by
    simp only [List.isPrefixOf, Bool.and_true, beq_eq_false_iff_ne]; exact fun e => h e.symm
  simp [this]

/-- What the program's reading of a numeral gives, by digits. -/
theorem rdDec_minus {r : List UInt8} : rdDec (45 :: r) = if r.length < 1 ∨ 18 < r.length then (0, false) else if r.all dig = true then (if Lib.itoa (-(valF 0 r : Int)) = 45 :: r then (-(valF 0 r : Int), true) else (0, false)) else (0, false) := by
  unfold rdDec
  rw [trim_minus]
  by_cases h : r.length < 1 ∨ 18 < r.length
  · rw [if_pos h, if_pos h]
  · rw [if_neg h, if_neg h]
    have hne : r ≠ [] := fun e => h (.inl (by simp [e]))
    have hp := parse_digits (l := r) (n := 0) (a := 0) (by simp) (by omega)
    have e43 : ((45 : UInt8).toNat = 43 ∨ (45 : UInt8).toNat = 45) := .inr rfl
    unfold Lib.parseIntB
    simp only [e43, if_true, Lib.parseUintB, hne, if_false, hp]
    by_cases hd : r.all dig = true
    · have hv := valF_lt (l := r) (n := 0) (a := 0) (by simp) hd
      have hv2 := pow_small (k := 0 + r.length) (by omega)
      have e45 : ((45 : UInt8).toNat = 45) := rfl
      have n2 : ¬ (2 ^ (64 - 1) < valF 0 r) := by omega
      simp only [hd, if_true, e45, not_true_eq_false, false_and, if_false, true_and, n2]
    · simp only [hd, Bool.false_eq_true, if_false]
      rfl

theorem rdDec_other {c : UInt8} {r : List UInt8} (hc : c ≠ 45) : rdDec (c :: r) = if (c :: r).length < 1 ∨ 18 < (c :: r).length then (0, false) else if (c :: r).all dig = true then (if Lib.itoa (valF 0 (c :: r) : Int) = c :: r then ((valF 0 (c :: r) : Int), true) else (0, false)) else (0, false) := by
  unfold rdDec
  rw [trim_other hc]
  by_cases h : (c :: r).length < 1 ∨ 18 < (c :: r).length
  · rw [if_pos h, if_pos h]
  · rw [if_neg h, if_neg h]
    have e45 : ¬ (c.toNat = 45) := fun e => hc (by rw [← UInt8.toNat_inj]; exact e)
    by_cases h43 : c = 43
    · subst h43
      have hd : ((43 : UInt8) :: r).all dig = false := by simp [dig]
      rw [hd]
      simp only [Bool.false_eq_true, if_false]
      rcases hp : Lib.parseIntB 64 (43 :: r) with v | _ | _
      · simp only [if_neg (itoa_plus v r)]
      · rfl
      · rfl
    · have e43 : ¬ (c.toNat = 43 ∨ c.toNat = 45) := fun e => by
        rcases e with e | e
        · exact h43 (by rw [← UInt8.toNat_inj]; exact e)
        · exact e45 e
      have hp := parse_digits (l := c :: r) (n := 0) (a := 0) (by simp) (by omega)
      unfold Lib.parseIntB
      simp only [e43, if_false, Lib.parseUintB, List.cons_ne_nil, hp]
      by_cases hd : (c :: r).all dig = true
      · have hv := valF_lt (l := c :: r) (n := 0) (a := 0) (by simp) hd
        have hv2 := pow_small (k := 0 + (c :: r).length) (by omega)
        have n1 : ¬ (2 ^ (64 - 1) ≤ valF 0 (c :: r)) := by omega
        simp only [hd, if_true, e45, not_false_eq_true, true_and, n1, false_and, if_false]
      · simp only [hd, Bool.false_eq_true, if_false]
        rfl

end Go.Proofs.YtlcabohpeopdcaaGreatDoor

/- What typed forms say: splitting a text, reading a numeral (the reference). No condition. -/
namespace Go.Proofs.YtlcabohpeopdcaaGreatDoor
open Go Go.RowKit
set_option linter.unusedSimpArgs false
set_option linter.unusedVariables false

theorem cut_same {s : List UInt8} {i : Nat} : cut s (i : Int) (i : Int) = [] := by
  simp [cut]

theorem cut_snoc {s : List UInt8} {a i : Nat} (h : a ≤ i) (hi : i < s.length) : cut s (a : Int) ((i + 1 : Nat) : Int) = cut s (a : Int) (i : Int) ++ [s[i]] := by
  simp only [cut, Int.toNat_natCast]
  rw [List.take_add_one, List.getElem?_eq_getElem hi, List.drop_append_of_le_length (by simp; omega)]
  rfl

theorem l01Split_is {s : List UInt8} (c : UInt8) (hl : s.length ≤ 1048576) : spec_l01Split s c = some (splitOn c s) := by
  unfold spec_l01Split
  obtain ⟨y, hy, hq⟩ := while_post (step := spec_l01Split_l1 s c) (fun st => ∃ a i : Nat, st.2.1 = (a : Int) ∧ st.2.2 = (i : Int) ∧ a ≤ i ∧ i ≤ s.length ∧ st.1.length ≤ i ∧ st.1 ++ splitAcc c (cut s (a : Int) (i : Int)) (s.drop i) = splitOn c s)
    (fun y => ∃ a : Nat, y.2 = (a : Int) ∧ a ≤ s.length ∧ y.1.length ≤ s.length ∧ y.1 ++ [cut s (a : Int) (s.length : Int)] = splitOn c s) (fun st => s.length - st.2.2.toNat) (by
    rintro ⟨out, fr, ii⟩ ⟨a, i, h1, h2, hai, hi, ho, he⟩
    simp only at h1 h2 ho he
    subst h1 h2
    by_cases hlt : i < s.length
    · left
      have hd : s.drop i = s[i] :: s.drop (i + 1) := List.drop_eq_getElem_cons hlt
      have hg : s.getD i 0 = s[i] := getD_lt hlt 0
      rw [hd, splitAcc] at he
      have hc2 : ((s[i].toNat : Int) == (c.toNat : Int)) = decide (s[i] = c) := by
        rw [Bool.eq_iff_iff]; simp only [beq_iff_eq, decide_eq_true_eq, ← UInt8.toNat_inj]; omega
      by_cases hc : s[i] = c
      · rw [if_pos hc] at he
        refine ⟨(out ++ [cut s (a : Int) (i : Int)], ((i + 1 : Nat) : Int), ((i + 1 : Nat) : Int)), ?_, ⟨i + 1, i + 1, rfl, rfl, Nat.le_refl _, by omega, by simp; omega, ?_⟩, by simp; omega⟩
        · simp only [spec_l01Split_l1, Int.ofNat_lt, hlt, decide_true, if_true, ixOk_nat, ck_true, Int.toNat_natCast, hg, hc, beq_self_eq_true, wrap_nat1 (show i < 9223372036854775807 by omega)]
          rw [cutOk_of (by omega) (by omega) (by omega), ck_true, appOk_of (by simp; omega), ck_true]
        · simp only
          rw [cut_same, List.append_assoc]
          exact he
      · rw [if_neg hc] at he
        refine ⟨(out, (a : Int), ((i + 1 : Nat) : Int)), ?_, ⟨a, i + 1, rfl, rfl, by omega, by omega, by show out.length ≤ i + 1; omega, ?_⟩, by simp; omega⟩
        · simp only [spec_l01Split_l1, Int.ofNat_lt, hlt, decide_true, if_true, ixOk_nat, ck_true, Int.toNat_natCast, hg, hc2, hc, decide_false, Bool.false_eq_true, if_false, wrap_nat1 (show i < 9223372036854775807 by omega)]
        · simp only
          rw [cut_snoc hai hlt]
          exact he
    · right
      have hie : i = s.length := by omega
      subst hie
      refine ⟨(out, (a : Int)), by simp [spec_l01Split_l1], a, rfl, hai, ho, ?_⟩
      rw [List.drop_length, splitAcc] at he
      exact he) (s := (([] : List (List UInt8)), 0, 0)) ⟨0, 0, rfl, rfl, Nat.le_refl _, Nat.zero_le _, by simp, by simp [cut, splitOn]⟩
  obtain ⟨a, h1, h2, h3, h4⟩ := hq
  obtain ⟨o, y2⟩ := y
  simp only at h1 h3 h4
  subst h1
  rw [hy]
  simp only [Option.bind_some]
  rw [cutOk_of (by omega) (by omega) (by omega), ck_true, appOk_of (by simp; omega), ck_true, h4]

/-! ### Numerals -/

theorem l01Digit_is (c : UInt8) : spec_l01Digit c = some (dig c) := id rfl

theorem dig_wrap {c : UInt8} (h : dig c = true) {n : Nat} (hn : n ≤ 100000000000000000) : IntKind.i64.wrap ((IntKind.i64.wrap (10 * (n : Int))) + (IntKind.i64.wrap (IntKind.u8.wrap ((c.toNat : Int) - 48)))) = ((n * 10 + (c.toNat - 48) : Nat) : Int) := by
  have hc := dig_iff.1 h
  have e1 : IntKind.u8.wrap ((c.toNat : Int) - 48) = ((c.toNat - 48 : Nat) : Int) := by
    have : ((c.toNat : Int) - 48) = ((c.toNat - 48 : Nat) : Int) := by omega
    rw [this]; exact wrap_u8 (by omega) (by omega)
  rw [e1, wrap_i64 (n := 10 * (n : Int)) (by omega) (by omega), wrap_i64 (n := ((c.toNat - 48 : Nat) : Int)) (by omega) (by omega), wrap_i64 (by omega) (by omega)]
  omega

theorem num_loop (s t : List UInt8) (ht : t.length ≤ 18) : ∀ (r : List UInt8) (i n : Nat), t.drop i = r → i + r.length = t.length → n < 10 ^ i →
    whileE (spec_l01Number_l1 s t) ((n : Int), (i : Int)) = some (if r.all dig = true then .inl ((valF n r : Nat) : Int) else .inr (0, false)) := by
  intro r
  induction r with
  | nil =>
    intro i n hd hi _
    have : i = t.length := by simpa using hi
    subst this
    refine whileE_done ?_
    simp [spec_l01Number_l1, valF_nil]
  | cons c r ih =>
    intro i n hd hi hn
    rw [List.length_cons] at hi
    have hlt : i < t.length := by omega
    have hc : t.getD i 0 = c := by
      rw [List.getD_eq_getElem?_getD]
      have : (t.drop i)[0]? = some c := by rw [hd]; rfl
      rw [List.getElem?_drop, Nat.add_zero] at this
      rw [this]; rfl
    have hd2 : t.drop (i + 1) = r := by
      have := congrArg List.tail hd
      rwa [List.tail_drop] at this
    by_cases hg : dig c = true
    · have hp := pow_small (show i ≤ 17 + 1 by omega)
      have hp17 : (10 : Nat) ^ i ≤ 10 ^ 17 := Nat.pow_le_pow_right (by omega) (by omega)
      have hcd := dig_iff.1 hg
      rw [whileE_next (s' := (((n * 10 + (c.toNat - 48) : Nat) : Int), ((i + 1 : Nat) : Int))) (by
        simp only [spec_l01Number_l1, Int.ofNat_lt, hlt, decide_true, if_true, ixOk_nat, ck_true, Int.toNat_natCast, hc, l01Digit_is, hg, Option.bind_some, Bool.not_true, Bool.false_eq_true, if_false, wrap_nat1 (show i < 9223372036854775807 by omega), dig_wrap hg (show n ≤ 100000000000000000 by omega)])]
      rw [ih (i + 1) (n * 10 + (c.toNat - 48)) hd2 (by omega) (by rw [Nat.pow_succ]; omega)]
      simp only [List.all_cons, hg, Bool.true_and, valF_cons]
    · have hg2 : dig c = false := by simpa using hg
      rw [whileE_done (r := .inr (0, false)) (by
        simp only [spec_l01Number_l1, Int.ofNat_lt, hlt, decide_true, if_true, ixOk_nat, ck_true, Int.toNat_natCast, hc, l01Digit_is, hg2, Option.bind_some, Bool.not_false])]
      simp only [List.all_cons, hg2, Bool.false_and, Bool.false_eq_true, if_false]

theorem num_loop2 : spec_l01Number_l2 = spec_l01Number_l1 := id rfl

theorem l01Number_is {s : List UInt8} (hl : s.length ≤ 1048576) : spec_l01Number s = some (rdDec s) := by
  unfold spec_l01Number
  cases s with
  | nil => simp [rdDec, Lib.trimPrefix, Lib.hasPrefix, ck_true]
  | cons c r =>
    have h0 : ((c :: r) == ([] : List UInt8)) = false := rfl
    have h1 : ixOk 0 (c :: r).length = true := ixOk_of (by omega) (by simp)
    have hc2 : ((((c :: r).getD 0 0).toNat : Int) == 45) = decide (c = 45) := by
      rw [Bool.eq_iff_iff]; simp only [List.getD_cons_zero, beq_iff_eq, decide_eq_true_eq, ← UInt8.toNat_inj]
      show (c.toNat : Int) = 45 ↔ c.toNat = 45
      omega
    simp only [h0, h1, Bool.or_true, ck_true, Bool.not_false, Bool.true_and, hc2]
    by_cases hc : c = 45
    · subst hc
      simp only [decide_true, if_true]
      have hcut : cut ((45 : UInt8) :: r) 1 ((((45 : UInt8) :: r).length : Nat) : Int) = r := by simp [cut]
      rw [cutOk_of (by omega) (by simp; omega) (by omega), ck_true, hcut, rdDec_minus]
      by_cases hb : r.length < 1 ∨ 18 < r.length
      · have e : (decide ((r.length : Int) < 1) || decide (18 < (r.length : Int))) = true := by simp; omega
        rw [if_pos hb, e]; rfl
      · have e : (decide ((r.length : Int) < 1) || decide (18 < (r.length : Int))) = false := by simp; omega
        rw [if_neg hb, e]
        simp only [Bool.false_eq_true, if_false]
        have hlp := num_loop ((45 : UInt8) :: r) r (by omega) r 0 0 rfl (by omega) (by simp)
        rw [show ((0 : Nat) : Int) = 0 from rfl] at hlp
        rw [hlp]
        by_cases hd : r.all dig = true
        · have hv := valF_lt (l := r) (n := 0) (a := 0) (by simp) hd
          have hv2 := pow_small (k := 0 + r.length) (by omega)
          have w : IntKind.i64.wrap (0 - ((valF 0 r : Nat) : Int)) = -((valF 0 r : Nat) : Int) := by rw [wrap_i64 (by omega) (by omega)]; omega
          have lt : decide ((r.length : Int) < (((45 : UInt8) :: r).length : Nat)) = true := by simp; omega
          simp only [hd, if_true, Option.bind_some, w, lt, l01Dec_is (n := -((valF 0 r : Nat) : Int)) ⟨by omega, by omega⟩]
          by_cases he : Lib.itoa (-((valF 0 r : Nat) : Int)) = 45 :: r
          · have : (Lib.itoa (-((valF 0 r : Nat) : Int)) == 45 :: r) = true := by simpa using he
            simp only [he, beq_self_eq_true, Bool.not_true, Bool.false_eq_true, if_false, if_true]
          · have : (Lib.itoa (-((valF 0 r : Nat) : Int)) == 45 :: r) = false := by simpa using he
            simp only [this, he, Bool.not_false, if_true, if_false]
        · simp only [hd, Bool.false_eq_true, if_false, Option.bind_some]
    · simp only [hc, decide_false, Bool.false_eq_true, if_false]
      rw [rdDec_other hc]
      by_cases hb : (c :: r).length < 1 ∨ 18 < (c :: r).length
      · have e : (decide (((c :: r).length : Int) < 1) || decide (18 < ((c :: r).length : Int))) = true := by simp at hb ⊢; omega
        rw [if_pos hb, e]; rfl
      · have e : (decide (((c :: r).length : Int) < 1) || decide (18 < ((c :: r).length : Int))) = false := by simp at hb ⊢; omega
        rw [if_neg hb, e]
        simp only [Bool.false_eq_true, if_false, num_loop2]
        have hlp := num_loop (c :: r) (c :: r) (by omega) (c :: r) 0 0 rfl (by omega) (by simp)
        rw [show ((0 : Nat) : Int) = 0 from rfl] at hlp
        rw [hlp]
        by_cases hd : (c :: r).all dig = true
        · have hv := valF_lt (l := c :: r) (n := 0) (a := 0) (by simp) hd
          have hv2 := pow_small (k := 0 + (c :: r).length) (by omega)
          have lt : decide (((c :: r).length : Int) < ((c :: r).length : Int)) = false := by simp
          simp only [hd, if_true, Option.bind_some, lt, Bool.false_eq_true, if_false, l01Dec_is (n := ((valF 0 (c :: r) : Nat) : Int)) ⟨by omega, by omega⟩]
          by_cases he : Lib.itoa ((valF 0 (c :: r) : Nat) : Int) = c :: r
          · have : (Lib.itoa ((valF 0 (c :: r) : Nat) : Int) == c :: r) = true := by simpa using he
            simp only [he, beq_self_eq_true, Bool.not_true, Bool.false_eq_true, if_false, if_true]
          · have : (Lib.itoa ((valF 0 (c :: r) : Nat) : Int) == c :: r) = false := by simpa using he
            simp only [this, he, Bool.not_false, if_true, if_false]
        · simp only [hd, Bool.false_eq_true, if_false, Option.bind_some]

theorem hRdDec_eq {s : List UInt8} (hl : s.length ≤ 1048576) : hRdDec s = some (rdDec s) := by
  unfold hRdDec; rw [if_pos (by omega)]

/-- A numeral that is read is the numeral of what is read. -/
theorem rdDec_itoa {s : List UInt8} (h : (rdDec s).2 = true) : Lib.itoa (rdDec s).1 = s ∧ R64 (rdDec s).1 := by
  cases s with
  | nil => simp [rdDec, Lib.trimPrefix, Lib.hasPrefix] at h
  | cons c r =>
    by_cases hc : c = 45
    · subst hc
      rw [rdDec_minus] at h ⊢
      split at h
      · cases h
      · rename_i hb
        rw [if_neg hb]
        split at h
        · rename_i hd
          rw [if_pos hd]
          split at h
          · rename_i he
            rw [if_pos he]
            have hv := valF_lt (l := r) (n := 0) (a := 0) (by simp) hd
            have hv2 := pow_small (k := 0 + r.length) (by omega)
            exact ⟨he, by show -9223372036854775808 ≤ -((valF 0 r : Nat) : Int); omega, by show -((valF 0 r : Nat) : Int) ≤ 9223372036854775807; omega⟩
          · cases h
        · cases h
    · rw [rdDec_other hc] at h ⊢
      split at h
      · cases h
      · rename_i hb
        rw [if_neg hb]
        split at h
        · rename_i hd
          rw [if_pos hd]
          split at h
          · rename_i he
            rw [if_pos he]
            have hv := valF_lt (l := c :: r) (n := 0) (a := 0) (by simp) hd
            have hv2 := pow_small (k := 0 + (c :: r).length) (by omega)
            exact ⟨he, by show -9223372036854775808 ≤ ((valF 0 (c :: r) : Nat) : Int); omega, by show ((valF 0 (c :: r) : Nat) : Int) ≤ 9223372036854775807; omega⟩
          · cases h
        · cases h

end Go.Proofs.YtlcabohpeopdcaaGreatDoor

/- Plain texts: a numeral reads as its number. No condition. -/
namespace Go.Proofs.YtlcabohpeopdcaaGreatDoor
open Go Go.RowKit
set_option linter.unusedSimpArgs false
set_option linter.unusedVariables false

/-! ### A numeral's own reading -/

theorem valF_app (n : Nat) (a b : List UInt8) : valF n (a ++ b) = valF (valF n a) b := by unfold valF; rw [List.foldl_append]

theorem val_dec : ∀ (k u : Nat), u < 10 ^ (k + 1) → valF 0 (Lib.decDigits u) = u
  | 0, u, h => by
    have h : u < 10 := by simpa using h
    rw [Lib.decDigits_one h, valF_cons, valF_nil, UInt8.toNat_ofNat']
    omega
  | k + 1, u, h => by
    by_cases c : u < 10
    · rw [Lib.decDigits_one c, valF_cons, valF_nil, UInt8.toNat_ofNat']
      omega
    · rw [Lib.decDigits, dif_neg c, valF_app, val_dec k (u / 10) (by rw [Nat.pow_succ] at h; omega), valF_cons, valF_nil, UInt8.toNat_ofNat']
      omega

theorem itoa_nat (u : Nat) : Lib.itoa (u : Int) = Lib.decDigits u := by unfold Lib.itoa; rw [if_neg (by omega)]; simp

theorem rdDec_small {n : Int} (h0 : 0 ≤ n) (h1 : n ≤ 65520) : rdDec (Lib.itoa n) = (n, true) := by
  obtain ⟨u, rfl⟩ := Int.eq_ofNat_of_zero_le h0
  rw [itoa_nat]
  have hl := Lib.decDigits_length u
  have hn := nDigits_le 4 u (by omega)
  have hne := decDigits_ne u
  have hall := dec_all u
  have hval := val_dec 4 u (by omega)
  cases hd : Lib.decDigits u with
  | nil => rw [hd] at hne; exact absurd hne (by simp)
  | cons c r =>
    rw [hd] at hl hall hval hne
    have hc : c ≠ 45 := fun e => by
      subst e
      have : dig 45 = true := (List.all_eq_true.1 hall) 45 (by simp)
      exact absurd this (by decide)
    rw [rdDec_other hc, if_neg (by omega), if_pos hall, hval, if_pos (by rw [itoa_nat, hd])]

theorem rdDec_any {n : Int} (h0 : -1000000000000000000 < n) (h1 : n < 1000000000000000000) : rdDec (Lib.itoa n) = (n, true) := by
  by_cases hn : 0 ≤ n
  · obtain ⟨u, rfl⟩ := Int.eq_ofNat_of_zero_le hn
    rw [itoa_nat]
    have hl := Lib.decDigits_length u
    have hnd := nDigits_le 17 u (by omega)
    have hne := decDigits_ne u
    have hall := dec_all u
    have hval := val_dec 17 u (by omega)
    cases hd : Lib.decDigits u with
    | nil => rw [hd] at hne; exact absurd hne (by simp)
    | cons c r =>
      rw [hd] at hl hall hval hne
      have hc : c ≠ 45 := fun e => by
        subst e
        have : dig 45 = true := (List.all_eq_true.1 hall) 45 (by simp)
        exact absurd this (by decide)
      rw [rdDec_other hc, if_neg (by omega), if_pos hall, hval, if_pos (by rw [itoa_nat, hd])]
  · obtain ⟨u, hu⟩ := Int.eq_ofNat_of_zero_le (show 0 ≤ -n by omega)
    obtain rfl : n = -(u : Int) := by omega
    have e : Lib.itoa (-(u : Int)) = 45 :: Lib.decDigits u := by unfold Lib.itoa; rw [if_pos (by omega)]; simp
    rw [e]
    have hl := Lib.decDigits_length u
    have hnd := nDigits_le 17 u (by omega)
    have hne := decDigits_ne u
    have hall := dec_all u
    have hval := val_dec 17 u (by omega)
    rw [rdDec_minus, if_neg (by omega), if_pos hall, hval, if_pos e]

theorem dec_free {c : UInt8} (hc : dig c = false) (u : Nat) : c ∉ Lib.decDigits u := fun h => by
  have := (List.all_eq_true.1 (dec_all u)) c h
  rw [hc] at this; cases this

end Go.Proofs.YtlcabohpeopdcaaGreatDoor

