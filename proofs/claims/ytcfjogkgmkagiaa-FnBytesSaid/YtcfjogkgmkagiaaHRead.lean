/- What typed forms say: reading numbers. No condition. -/
import Derived.Test.YtcfjogkgmkagiaaBYT
import Derived.Test.YtcfjogkgmkagiaaHUtil
import Derived.Test.YtcfjogkgmkagiaaEngTD
namespace Go.Proofs.Ytcfjogkgmkagiaa
open Go Go.RowKit
set_option linter.unusedSimpArgs false
set_option linter.unusedVariables false

def rdInv (s : Int × Int) : Prop := ∃ n i : Nat, s = ((n : Int), (i : Int)) ∧ i ≤ 9 ∧ n < 2 ^ (7 * i)

theorem rd_pow {i : Nat} (h : i < 9) : (2 : Nat) ^ (7 * i) ≤ 2 ^ 56 ∧ 2 ^ (7 * (i + 1)) = 128 * 2 ^ (7 * i) := by
  refine ⟨Nat.pow_le_pow_right (by omega) (by omega), ?_⟩
  rw [show 7 * (i + 1) = 7 + 7 * i by omega, Nat.pow_add]

theorem rd_wrap {i : Nat} (h : i < 9) : IntKind.i64.wrap (7 * (i : Int)) = ((7 * i : Nat) : Int) := by
  rw [wrap_i64 (by omega) (by omega)]; simp
theorem rd_wrapu {i : Nat} (h : i < 9) : IntKind.u64.wrap ((7 * i : Nat) : Int) = ((7 * i : Nat) : Int) := by
  unfold IntKind.wrap IntKind.bits; simp [IntKind.signed]; omega

theorem rd_step {b : List UInt8} {n i : Nat} {c : UInt8} (hgc : b.getD i default = c) (hi : i < 9) (hb : i < b.length) (hn : n < 2 ^ (7 * i)) :
    spec_l25Read_l1 b ((n : Int), (i : Int)) = some (if c < 128 then (if 0 < i ∧ c = 0 then .inr (.inr (0, 0, false)) else .inr (.inr (((n + (c).toNat % 128 * 2 ^ (7 * i) : Nat) : Int), ((i + 1 : Nat) : Int), true)))
      else .inl (((n + (c).toNat % 128 * 2 ^ (7 * i) : Nat) : Int), ((i + 1 : Nat) : Int))) ∧
    impl_ReadNumber_l1 b ((n : Int), (i : Int)) = spec_l25Read_l1 b ((n : Int), (i : Int)) ∧ n + (c).toNat % 128 * 2 ^ (7 * i) < 2 ^ (7 * (i + 1)) := by
  obtain ⟨p1, p2⟩ := rd_pow hi
  have hc : (c).toNat % 128 < 128 := Nat.mod_lt _ (by omega)
  have hlt : n + (c).toNat % 128 * 2 ^ (7 * i) < 2 ^ (7 * (i + 1)) := by
    rw [p2]
    have : (c).toNat % 128 * 2 ^ (7 * i) ≤ 127 * 2 ^ (7 * i) := Nat.mul_le_mul_right _ (by omega)
    omega
  have hbig : n + (c).toNat % 128 * 2 ^ (7 * i) < 2 ^ 63 := by omega
  have hor := or_add (n := n) (a := (c).toNat % 128) hn hbig
  have hadd : IntKind.i64.wrap ((n : Int) + ((((c).toNat % 128 * 2 ^ (7 * i) : Nat)) : Int)) = ((n + (c).toNat % 128 * 2 ^ (7 * i) : Nat) : Int) := by
    rw [wrap_i64 (by omega) (by omega)]; simp
  have hsh : IntKind.i64.wrap ((((c).toNat % 128 : Nat) : Int) * 2 ^ (7 * i)) = (((c).toNat % 128 * 2 ^ (7 * i) : Nat) : Int) := by
    have e : (((c).toNat % 128 : Nat) : Int) * 2 ^ (7 * i) = (((c).toNat % 128 * 2 ^ (7 * i) : Nat) : Int) := by
      rw [Int.natCast_mul, Int.natCast_pow]; rfl
    rw [e, wrap_i64 (by omega) (by omega)]
  have hm : min (7 * i) 64 = 7 * i := by omega
  have h7 : IntKind.i64.wrap (((c).toNat % 128 : Nat) : Int) = (((c).toNat % 128 : Nat) : Int) := wrap_i64 (by omega) (by omega)
  have c1 : decide ((((c).toNat : Nat) : Int) < 128) = decide (c < 128) := by
    simp only [UInt8.lt_iff_toNat_lt]; simp; omega
  have c2 : ((((c).toNat : Nat) : Int) == 0) = decide (c = 0) := by
    rw [Bool.eq_iff_iff]; simp [← UInt8.toNat_inj]
  have e1 : spec_l25Read_l1 b ((n : Int), (i : Int)) = some (if c < 128 then (if 0 < i ∧ c = 0 then .inr (.inr (0, 0, false)) else .inr (.inr (((n + (c).toNat % 128 * 2 ^ (7 * i) : Nat) : Int), ((i + 1 : Nat) : Int), true)))
      else .inl (((n + (c).toNat % 128 * 2 ^ (7 * i) : Nat) : Int), ((i + 1 : Nat) : Int))) := by
    simp only [spec_l25Read_l1, ixOk_nat, hb, Int.toNat_natCast, hgc, and127, rd_wrap hi, rd_wrapu hi, hm, h7, hsh, hadd, c1, c2, wrap_nat1 (show i < 9223372036854775807 by omega)]
    have h9 : decide ((i : Int) < 9) = true := by simp; omega
    have h0 : decide ((0 : Int) < i) = decide (0 < i) := by simp
    rw [shOk_of (by omega), h9, h0]
    simp only [Int.ofNat_lt, hb, decide_true, Bool.and_self, if_true, ck_true]
    by_cases a1 : c < 128
    · by_cases a2 : 0 < i <;> by_cases a3 : c = 0 <;> simp [a1, a2, a3]
    · simp [a1]
  refine ⟨e1, ?_, hlt⟩
  rw [e1]
  simp only [impl_ReadNumber_l1, ixOk_nat, hb, Int.toNat_natCast, hgc, and127, rd_wrap hi, hm, h7, hsh, hor, c1, c2, wrap_nat1 (show i < 9223372036854775807 by omega)]
  have h9 : decide ((i : Int) < 9) = true := by simp; omega
  have h0 : decide ((0 : Int) < i) = decide (0 < i) := by simp
  rw [shOk_of (by omega), h9, h0]
  simp only [Int.ofNat_lt, hb, decide_true, Bool.and_self, if_true, ck_true]
  by_cases a1 : c < 128
  · by_cases a2 : 0 < i <;> by_cases a3 : c = 0 <;> simp [a1, a2, a3]
  · simp [a1]

theorem rd_end {b : List UInt8} {n i : Nat} (h : ¬ (i < b.length ∧ i < 9)) : spec_l25Read_l1 b ((n : Int), (i : Int)) = some (.inr (.inl ())) ∧ impl_ReadNumber_l1 b ((n : Int), (i : Int)) = some (.inr (.inl ())) := by
  have : ((decide ((i : Int) < (b.length : Int))) && (decide ((i : Int) < 9))) = false := by
    rw [Bool.and_eq_false_iff]; simp; omega
  simp only [spec_l25Read_l1, impl_ReadNumber_l1, this, Bool.false_eq_true, if_false, and_self]

/-- Both read the same number. -/
theorem read_is (b : List UInt8) : ∃ (n k : Nat) (ok : Bool), spec_l25Read b = some ((n : Int), (k : Int), ok) ∧ impl_ReadNumber b = some ((n : Int), (k : Int), ok) ∧ n < 2 ^ 63 ∧ k ≤ b.length ∧ k ≤ 9 := by
  have hc : whileE (impl_ReadNumber_l1 b) ((0 : Int), (0 : Int)) = whileE (spec_l25Read_l1 b) (0, 0) := by
    refine while_congr rdInv ?_ ?_ ⟨0, 0, rfl, by omega, by simp⟩
    · rintro s ⟨n, i, rfl, h9, hn⟩
      by_cases h : i < b.length ∧ i < 9
      · exact (rd_step rfl h.2 h.1 hn).2.1
      · rw [(rd_end h).1, (rd_end h).2]
    · rintro s s' ⟨n, i, rfl, h9, hn⟩ e
      by_cases h : i < b.length ∧ i < 9
      · obtain ⟨a1, a2, a3⟩ := rd_step rfl h.2 h.1 hn
        rw [a2, a1] at e
        split at e
        · split at e <;> cases e
        · cases e; exact ⟨_, _, rfl, by omega, a3⟩
      · rw [(rd_end h).2] at e; cases e
  obtain ⟨y, hy, hq⟩ := while_post (step := spec_l25Read_l1 b) rdInv (fun y => y = .inl () ∨ ∃ (n k : Nat) (ok : Bool), y = .inr ((n : Int), (k : Int), ok) ∧ n < 2 ^ 63 ∧ k ≤ b.length ∧ k ≤ 9) (fun s => 9 - s.2.toNat) (by
    rintro s ⟨n, i, rfl, h9, hn⟩
    by_cases h : i < b.length ∧ i < 9
    · obtain ⟨a1, a2, a3⟩ := rd_step rfl h.2 h.1 hn
      rw [a1]
      split
      · split
        · exact .inr ⟨_, rfl, .inr ⟨0, 0, false, rfl, by omega, by omega, by omega⟩⟩
        · refine .inr ⟨_, rfl, .inr ⟨_, _, true, rfl, Nat.lt_of_lt_of_le a3 (Nat.pow_le_pow_right (by omega) (by omega)), by omega, by omega⟩⟩
      · exact .inl ⟨_, rfl, ⟨_, _, rfl, by omega, a3⟩, by simp; omega⟩
    · exact .inr ⟨_, (rd_end h).1, .inl rfl⟩) (s := (0, 0)) ⟨0, 0, rfl, by omega, by simp⟩
  simp only [spec_l25Read, impl_ReadNumber, hc, hy, Option.bind_some]
  rcases hq with rfl | ⟨n, k, ok, rfl, h1, h2, h3⟩
  · exact ⟨0, 0, false, rfl, rfl, by omega, by omega, by omega⟩
  · exact ⟨n, k, ok, rfl, rfl, h1, h2, h3⟩

end Go.Proofs.Ytcfjogkgmkagiaa
