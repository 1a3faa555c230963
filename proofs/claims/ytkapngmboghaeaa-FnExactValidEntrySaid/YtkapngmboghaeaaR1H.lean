/- What the typed forms of the first functions say. No condition. -/
import Derived.Test.YtkapngmboghaeaaR1T
import Derived.Test.YtkapngmboghaeaaEngTD
namespace Go.Proofs.Ytkapngmboghaeaa
open Go Go.RowKit
set_option linter.unusedSimpArgs false
set_option linter.unusedVariables false

theorem eqByteS_is {a b : List UInt8} (h : a.length ≤ 1048576) : laws_eqByteS a b = some (decide (a = b)) := by
  unfold laws_eqByteS
  by_cases hl : a.length = b.length
  · have h1 : ((a.length : Int) == (b.length : Int)) = true := by simp [hl]
    rw [h1]
    have := while_all (step := laws_eqByteS_l1 a b) (fun i => a.getD i default == b.getD i default) a.length (decide (a = b)) (yes := .inl ()) (no := .inr false)
      (by rw [decide_eq_true_eq]; exact (getD_eq_iff hl).symm)
      (fun i hi => by
        have hi2 : i < b.length := by omega
        simp only [laws_eqByteS_l1, ixOk_nat, hi, hi2, decide_true, ck_true, Int.ofNat_lt, if_true, Int.toNat_natCast, wrap_nat1 (show i < 9223372036854775807 by omega)]
        have e : (((a.getD i default).toNat : Int) == ((b.getD i default).toNat : Int)) = (a.getD i default == b.getD i default) := by
          rw [Bool.eq_iff_iff]; simp [← UInt8.toNat_inj]; omega
        rw [e]
        cases (a.getD i default == b.getD i default) <;> rfl)
      (by simp [laws_eqByteS_l1])
    simp only [Bool.not_true, Bool.false_eq_true, if_false, this, Option.bind_some]
    by_cases hab : a = b <;> simp [hab]
  · have h1 : ((a.length : Int) == (b.length : Int)) = false := by simp; omega
    rw [h1]
    have : a ≠ b := fun c => hl (by rw [c])
    simp [this]

theorem toByteS_is {a : List UInt8} (h : a.length ≤ 1048576) : laws_toByteS a = some a := by
  unfold laws_toByteS
  rw [mkOk_of (by omega) (by omega) (by omega), ck_true]
  have := while_up (step := laws_toByteS_l1 a) (fun i => a.take i ++ List.replicate (a.length - i) 0) a.length (r := a)
    (fun i hi => by
      have hl : (a.take i ++ List.replicate (a.length - i) (0 : UInt8)).length = a.length := by simp; omega
      simp only [laws_toByteS_l1, ixOk_nat, hl, hi, decide_true, ck_true, Int.ofNat_lt, if_true, Int.toNat_natCast, wrap_nat1 (show i < 9223372036854775807 by omega)]
      congr 3
      refine List.ext_getElem (by simp; omega) fun j h1 h2 => ?_
      simp only [List.getElem_set, getD_lt hi]
      by_cases e : i = j
      · subst e; rw [if_pos rfl, List.getElem_append_left (by simp; omega), List.getElem_take]
      · rw [if_neg e]
        by_cases hj : j < i
        · rw [List.getElem_append_left (by simp; omega), List.getElem_append_left (by simp; omega), List.getElem_take, List.getElem_take]
        · rw [List.getElem_append_right (by simp; omega), List.getElem_append_right (by simp; omega), List.getElem_replicate, List.getElem_replicate])
    (by simp [laws_toByteS_l1])
  simp only [List.take_zero, List.nil_append, Nat.sub_zero] at this
  rw [Int.toNat_natCast, this]; rfl

def rdInv (s : Int × Int) : Prop := ∃ n i : Nat, s = ((n : Int), (i : Int)) ∧ i ≤ 9 ∧ n < 2 ^ (7 * i)

theorem rd_pow {i : Nat} (h : i < 9) : (2 : Nat) ^ (7 * i) ≤ 2 ^ 56 ∧ 2 ^ (7 * (i + 1)) = 128 * 2 ^ (7 * i) := by
  refine ⟨Nat.pow_le_pow_right (by omega) (by omega), ?_⟩
  rw [show 7 * (i + 1) = 7 + 7 * i by omega, Nat.pow_add]

theorem rd_wrap {i : Nat} (h : i < 9) : IntKind.i64.wrap (7 * (i : Int)) = ((7 * i : Nat) : Int) := by
  rw [wrap_i64 (by omega) (by omega)]; simp
theorem rd_wrapu {i : Nat} (h : i < 9) : IntKind.u64.wrap ((7 * i : Nat) : Int) = ((7 * i : Nat) : Int) := by
  unfold IntKind.wrap IntKind.bits; simp [IntKind.signed]; omega

theorem rd_step {b : List UInt8} {n i : Nat} {c : UInt8} (hgc : b.getD i default = c) (hi : i < 9) (hb : i < b.length) (hn : n < 2 ^ (7 * i)) :
    spec_l25Read_l1 b ((n : Int), (i : Int)) = some (if c < 128 then (if 0 < i ∧ c = 0 then .inr (.inr (0, 0, false)) else .inr (.inr (((n + (c).toNat % 128 * 2 ^ (7 * i) : Nat) : Int), ((i + 1 : Nat) : Int), true)))
      else .inl (((n + (c).toNat % 128 * 2 ^ (7 * i) : Nat) : Int), ((i + 1 : Nat) : Int))) ∧
    impl_ReadNumber_l1 b ((n : Int), (i : Int)) = spec_l25Read_l1 b ((n : Int), (i : Int)) ∧ n + (c).toNat % 128 * 2 ^ (7 * i) < 2 ^ (7 * (i + 1)) := by
  obtain ⟨p1, p2⟩ := rd_pow hi
  have hc : (c).toNat % 128 < 128 := Nat.mod_lt _ (by omega)
  have hlt : n + (c).toNat % 128 * 2 ^ (7 * i) < 2 ^ (7 * (i + 1)) := by
    rw [p2]
    have : (c).toNat % 128 * 2 ^ (7 * i) ≤ 127 * 2 ^ (7 * i) := Nat.mul_le_mul_right _ (by omega)
    omega
  have hbig : n + (c).toNat % 128 * 2 ^ (7 * i) < 2 ^ 63 := by omega
  have hor := or_add (n := n) (a := (c).toNat % 128) hn hbig
  have hadd : IntKind.i64.wrap ((n : Int) + ((((c).toNat % 128 * 2 ^ (7 * i) : Nat)) : Int)) = ((n + (c).toNat % 128 * 2 ^ (7 * i) : Nat) : Int) := by
    rw [wrap_i64 (by omega) (by omega)]; simp
  have hsh : IntKind.i64.wrap ((((c).toNat % 128 : Nat) : Int) * 2 ^ (7 * i)) = (((c).toNat % 128 * 2 ^ (7 * i) : Nat) : Int) := by
    have e : (((c).toNat % 128 : Nat) : Int) * 2 ^ (7 * i) = (((c).toNat % 128 * 2 ^ (7 * i) : Nat) : Int) := by
      rw [Int.natCast_mul, Int.natCast_pow]; rfl
    rw [e, wrap_i64 (by omega) (by omega)]
  have hm : min (7 * i) 64 = 7 * i := by omega
  have h7 : IntKind.i64.wrap (((c).toNat % 128 : Nat) : Int) = (((c).toNat % 128 : Nat) : Int) := wrap_i64 (by omega) (by omega)
  have c1 : decide ((((c).toNat : Nat) : Int) < 128) = decide (c < 128) := by
    simp only [UInt8.lt_iff_toNat_lt]; simp; omega
  have c2 : ((((c).toNat : Nat) : Int) == 0) = decide (c = 0) := by
    rw [Bool.eq_iff_iff]; simp [← UInt8.toNat_inj]
  have e1 : spec_l25Read_l1 b ((n : Int), (i : Int)) = some (if c < 128 then (if 0 < i ∧ c = 0 then .inr (.inr (0, 0, false)) else .inr (.inr (((n + (c).toNat % 128 * 2 ^ (7 * i) : Nat) : Int), ((i + 1 : Nat) : Int), true)))
      else .inl (((n + (c).toNat % 128 * 2 ^ (7 * i) : Nat) : Int), ((i + 1 : Nat) : Int))) := by
    simp only [spec_l25Read_l1, ixOk_nat, hb, Int.toNat_natCast, hgc, and127, rd_wrap hi, rd_wrapu hi, hm, h7, hsh, hadd, c1, c2, wrap_nat1 (show i < 9223372036854775807 by omega)]
    have h9 : decide ((i : Int) < 9) = true := by simp; omega
    have h0 : decide ((0 : Int) < i) = decide (0 < i) := by simp
    rw [shOk_of (by omega), h9, h0]
    simp only [Int.ofNat_lt, hb, decide_true, Bool.and_self, if_true, ck_true]
    by_cases a1 : c < 128
    · by_cases a2 : 0 < i <;> by_cases a3 : c = 0 <;> simp [a1, a2, a3]
    · simp [a1]
  refine ⟨e1, ?_, hlt⟩
  rw [e1]
  simp only [impl_ReadNumber_l1, ixOk_nat, hb, Int.toNat_natCast, hgc, and127, rd_wrap hi, hm, h7, hsh, hor, c1, c2, wrap_nat1 (show i < 9223372036854775807 by omega)]
  have h9 : decide ((i : Int) < 9) = true := by simp; omega
  have h0 : decide ((0 : Int) < i) = decide (0 < i) := by simp
  rw [shOk_of (by omega), h9, h0]
  simp only [Int.ofNat_lt, hb, decide_true, Bool.and_self, if_true, ck_true]
  by_cases a1 : c < 128
  · by_cases a2 : 0 < i <;> by_cases a3 : c = 0 <;> simp [a1, a2, a3]
  · simp [a1]

theorem rd_end {b : List UInt8} {n i : Nat} (h : ¬ (i < b.length ∧ i < 9)) : spec_l25Read_l1 b ((n : Int), (i : Int)) = some (.inr (.inl ())) ∧ impl_ReadNumber_l1 b ((n : Int), (i : Int)) = some (.inr (.inl ())) := by
  have : ((decide ((i : Int) < (b.length : Int))) && (decide ((i : Int) < 9))) = false := by
    rw [Bool.and_eq_false_iff]; simp; omega
  simp only [spec_l25Read_l1, impl_ReadNumber_l1, this, Bool.false_eq_true, if_false, and_self]

/-- Both read the same number. -/
theorem ReadNumber_same (b : List UInt8) : ∃ y, spec_ReadNumber b = some y ∧ impl_ReadNumber b = some y := by
  have hc : whileE (impl_ReadNumber_l1 b) ((0 : Int), (0 : Int)) = whileE (spec_l25Read_l1 b) (0, 0) := by
    refine while_congr rdInv ?_ ?_ ⟨0, 0, rfl, by omega, by simp⟩
    · rintro s ⟨n, i, rfl, h9, hn⟩
      by_cases h : i < b.length ∧ i < 9
      · exact (rd_step rfl h.2 h.1 hn).2.1
      · rw [(rd_end h).1, (rd_end h).2]
    · rintro s s' ⟨n, i, rfl, h9, hn⟩ e
      by_cases h : i < b.length ∧ i < 9
      · obtain ⟨a1, a2, a3⟩ := rd_step rfl h.2 h.1 hn
        rw [a2, a1] at e
        split at e
        · split at e <;> cases e
        · cases e; exact ⟨_, _, rfl, by omega, a3⟩
      · rw [(rd_end h).2] at e; cases e
  obtain ⟨y, hy, -⟩ := while_post (step := spec_l25Read_l1 b) rdInv (fun _ => True) (fun s => 9 - s.2.toNat) (by
    rintro s ⟨n, i, rfl, h9, hn⟩
    by_cases h : i < b.length ∧ i < 9
    · obtain ⟨a1, a2, a3⟩ := rd_step rfl h.2 h.1 hn
      rw [a1]
      split
      · split <;> exact .inr ⟨_, rfl, trivial⟩
      · exact .inl ⟨_, rfl, ⟨_, _, rfl, by omega, a3⟩, by simp; omega⟩
    · exact .inr ⟨_, (rd_end h).1, trivial⟩) (s := (0, 0)) ⟨0, 0, rfl, by omega, by simp⟩
  simp only [spec_ReadNumber, spec_l25Read, impl_ReadNumber, hc, hy, Option.bind_some]
  cases y <;> exact ⟨_, rfl, rfl⟩

theorem law_ReadNumber {b : List UInt8} : laws_FnExactReadNumber b = some true := by
  unfold laws_FnExactReadNumber
  by_cases h : (1048576 : Int) < b.length
  · simp [h]
  · have hl : b.length ≤ 1048576 := by omega
    obtain ⟨y, h1, h2⟩ := ReadNumber_same b
    simp [h, toByteS_is hl, h1, h2, eqByteS_is hl]

/-! ### Names -/

def okc (first : Bool) (c : UInt8) : Bool := (decide (97 ≤ c.toNat) && decide (c.toNat ≤ 122)) || (!first && ((decide (48 ≤ c.toNat) && decide (c.toNat ≤ 57)) || c.toNat == 45))

theorem spec_l01Small_is (c : UInt8) : spec_l01Small c = some (decide (97 ≤ c.toNat) && decide (c.toNat ≤ 122)) := by
  have h1 : ((97 : Int) ≤ (c.toNat : Int)) ↔ 97 ≤ c.toNat := by omega
  have h2 : ((c.toNat : Int) ≤ 122) ↔ c.toNat ≤ 122 := by omega
  simp [spec_l01Small, h1, h2]
theorem spec_l01Digit_is (c : UInt8) : spec_l01Digit c = some (decide (48 ≤ c.toNat) && decide (c.toNat ≤ 57)) := by
  have h1 : ((48 : Int) ≤ (c.toNat : Int)) ↔ 48 ≤ c.toNat := by omega
  have h2 : ((c.toNat : Int) ≤ 57) ↔ c.toNat ≤ 57 := by omega
  simp [spec_l01Digit, h1, h2]

/-- A name: one to twelve letters, digits and dashes, the first one a letter. -/
def nameB (s : List UInt8) : Bool := decide (1 ≤ s.length) && (decide (s.length ≤ 12) && ((List.range s.length).all fun i => okc (i == 0) (s.getD i 0)))

theorem all_range {n : Nat} {p : Nat → Bool} : ((List.range n).all p = true) ↔ ∀ i, i < n → p i = true := by simp

theorem okc_core (c : UInt8) (i : Nat) : (!((decide ((97 : Int) ≤ (c.toNat : Int))) && (decide ((c.toNat : Int) ≤ 122))) && (((i : Int) == 0) || (!(((decide ((48 : Int) ≤ (c.toNat : Int))) && (decide ((c.toNat : Int) ≤ 57))) || ((c.toNat : Int) == 45))))) = !okc (i == 0) c := by
  have b1 : decide ((97 : Int) ≤ (c.toNat : Int)) = decide (97 ≤ c.toNat) := by rw [decide_eq_decide]; omega
  have b2 : decide ((c.toNat : Int) ≤ 122) = decide (c.toNat ≤ 122) := by rw [decide_eq_decide]; omega
  have b3 : decide ((48 : Int) ≤ (c.toNat : Int)) = decide (48 ≤ c.toNat) := by rw [decide_eq_decide]; omega
  have b4 : decide ((c.toNat : Int) ≤ 57) = decide (c.toNat ≤ 57) := by rw [decide_eq_decide]; omega
  have b5 : ((c.toNat : Int) == 45) = (c.toNat == 45) := by rw [Bool.eq_iff_iff]; simp; omega
  have b6 : ((i : Int) == 0) = (i == 0) := by rw [Bool.eq_iff_iff]; simp
  rw [b1, b2, b3, b4, b5, b6]
  unfold okc
  cases decide (97 ≤ c.toNat) <;> cases decide (c.toNat ≤ 122) <;> cases decide (48 ≤ c.toNat) <;> cases decide (c.toNat ≤ 57) <;> cases (c.toNat == 45) <;> cases (i == 0) <;> rfl

theorem okc_core2 (c : UInt8) : (((!(decide (97 ≤ c.toNat) && decide (c.toNat ≤ 122))) && (!(decide (48 ≤ c.toNat) && decide (c.toNat ≤ 57)))) && (!((c.toNat : Int) == 45))) = !okc false c := by
  have b5 : ((c.toNat : Int) == 45) = (c.toNat == 45) := by rw [Bool.eq_iff_iff]; simp; omega
  rw [b5]
  unfold okc
  cases decide (97 ≤ c.toNat) <;> cases decide (c.toNat ≤ 122) <;> cases decide (48 ≤ c.toNat) <;> cases decide (c.toNat ≤ 57) <;> cases (c.toNat == 45) <;> rfl

theorem impl_IsName_is (s : List UInt8) : impl_IsName s = some (nameB s) := by
  unfold impl_IsName
  by_cases h : ((s.length : Int) < 1) ∨ ((12 : Int) < s.length)
  · have h1 : ((decide ((s.length : Int) < 1)) || (decide ((12 : Int) < (s.length : Int)))) = true := by simpa using h
    have h2 : nameB s = false := by unfold nameB; by_cases a : 1 ≤ s.length <;> by_cases b : s.length ≤ 12 <;> simp [a, b] <;> omega
    simp only [h1, if_true, h2]
  · have h1 : ((decide ((s.length : Int) < 1)) || (decide ((12 : Int) < (s.length : Int)))) = false := by simpa using h
    simp only [h1, Bool.false_eq_true, if_false]
    rw [while_all (step := impl_IsName_l1 s (s.length : Int)) (fun i => okc (i == 0) (s.getD i 0)) s.length ((List.range s.length).all fun i => okc (i == 0) (s.getD i 0)) (yes := .inl ()) (no := .inr false) all_range]
    · have a1 : 1 ≤ s.length := by omega
      have a2 : s.length ≤ 12 := by omega
      unfold nameB
      simp only [a1, a2, decide_true, Bool.true_and]
      cases ((List.range s.length).all fun i => okc (i == 0) (s.getD i 0)) <;> rfl
    · intro i hi
      simp only [impl_IsName_l1, Int.ofNat_lt, hi, decide_true, if_true, ixOk_nat, ck_true, Int.toNat_natCast, wrap_nat1 (show i < 9223372036854775807 by omega)]
      rw [okc_core]
      cases okc (i == 0) (s.getD i 0) <;> rfl
    · simp [impl_IsName_l1]

theorem spec_IsName_is (s : List UInt8) : spec_IsName s = some (nameB s) := by
  unfold spec_IsName
  by_cases h : s.length = 0 ∨ 12 < s.length
  · have h1 : ((s == ([] : List UInt8)) || (decide ((12 : Int) < (s.length : Int)))) = true := by
      rcases h with h | h
      · have : s = [] := List.eq_nil_of_length_eq_zero h
        simp [this]
      · simp; right; omega
    have h2 : nameB s = false := by unfold nameB; by_cases a : 1 ≤ s.length <;> by_cases b : s.length ≤ 12 <;> simp [a, b] <;> omega
    simp only [h1, h2, Bool.not_true, Bool.not_false, Bool.true_or, ck_true, if_true]
  · have h1 : ((s == ([] : List UInt8)) || (decide ((12 : Int) < (s.length : Int)))) = false := by
      rw [Bool.or_eq_false_iff]
      refine ⟨?_, by simp; omega⟩
      rw [beq_eq_false_iff_ne]; rintro rfl; simp at h
    have hi0 : ixOk 0 s.length = true := ixOk_of (by omega) (by omega)
    simp only [h1, hi0, spec_l01Small_is, Option.isSome_some, Option.getD_some, Bool.or_true, ck_true, Bool.false_or]
    by_cases hf : (decide (97 ≤ (s.getD 0 0).toNat) && decide ((s.getD 0 0).toNat ≤ 122)) = true
    · rw [hf]
      simp only [Bool.not_true, Bool.false_eq_true, if_false]
      rw [while_all (step := spec_IsName_l1 s) (fun i => okc false (s.getD i 0)) s.length ((List.range s.length).all fun i => okc (i == 0) (s.getD i 0)) (yes := .inl ()) (no := .inr false)]
      · have a1 : 1 ≤ s.length := by omega
        have a2 : s.length ≤ 12 := by omega
        unfold nameB
        simp only [a1, a2, decide_true, Bool.true_and]
        cases ((List.range s.length).all fun i => okc (i == 0) (s.getD i 0)) <;> rfl
      · rw [all_range]
        refine forall_congr' fun i => forall_congr' fun hi => ?_
        by_cases e : i = 0
        · subst e; simp only [okc, hf, Bool.true_or]
        · have : (i == 0) = false := by simpa using e
          rw [this]
      · intro i hi
        simp only [spec_IsName_l1, Int.ofNat_lt, hi, decide_true, if_true, ixOk_nat, ck_true, Int.toNat_natCast, wrap_nat1 (show i < 9223372036854775807 by omega), spec_l01Small_is, spec_l01Digit_is, Option.bind_some, Option.isSome_some, Option.getD_some, Bool.or_true]
        rw [okc_core2]
        cases okc false (s.getD i 0) <;> rfl
      · simp [spec_IsName_l1]
    · have hf' : (decide (97 ≤ (s.getD 0 0).toNat) && decide ((s.getD 0 0).toNat ≤ 122)) = false := by simpa using hf
      rw [hf']
      have : nameB s = false := by
        unfold nameB
        have : ((List.range s.length).all fun i => okc (i == 0) (s.getD i 0)) = false := by
          cases hq : ((List.range s.length).all fun i => okc (i == 0) (s.getD i 0)) with
          | false => rfl
          | true =>
            have := all_range.1 hq 0 (by omega)
            simp only [okc, hf', beq_self_eq_true, Bool.not_true, Bool.false_and, Bool.or_false, Bool.false_eq_true] at this
        simp only [this, Bool.and_false]
      rw [this]; rfl

theorem spec_l00In_is (n a b : Int) : spec_l00In n a b = some (decide (a ≤ n) && decide (n ≤ b)) := rfl
theorem impl_in_is (n a b : Int) : impl_in n a b = some (decide (a ≤ n) && decide (n ≤ b)) := rfl

theorem law_ValidEntry {e : Entry} : laws_FnExactValidEntry e = some true := by
  unfold laws_FnExactValidEntry
  have h1 : spec_ValidEntry e = impl_ValidEntry e := by
    simp [spec_ValidEntry, spec_l27Ok, spec_l27Day, impl_ValidEntry, spec_l00In_is, impl_in_is, spec_IsName_is, impl_IsName_is]
  have h2 : ∃ y, impl_ValidEntry e = some y := by
    simp [impl_ValidEntry, impl_in_is, impl_IsName_is, ck_true]
  obtain ⟨y, h2⟩ := h2
  have h3 : ∃ z, laws_szEntry e 1048576 = some z := by
    unfold laws_szEntry
    split <;> exact ⟨_, rfl⟩
  obtain ⟨z, h3⟩ := h3
  simp [h3, laws_toEntry, h1, h2]

end Go.Proofs.Ytkapngmboghaeaa
