/- What typed forms say: choices drawn from bytes. No condition. -/
import Derived.Test.YtambhaccpbhnhaaGreatDoorTBL
import Derived.Test.YtambhaccpbhnhaaGreatDoorHUtil
namespace Go.Proofs.YtambhaccpbhnhaaGreatDoor
open Go Go.RowKit
set_option linter.unusedSimpArgs false
set_option linter.unusedVariables false

def SrcN (m : Nat) (s : L00Src) : Prop := 0 ≤ s.at_ ∧ s.at_ + m ≤ 1000000000000 ∧ s.code_.length ≤ 1099511627776

theorem SrcN.le {m n : Nat} {s : L00Src} (h : SrcN m s) (hn : n ≤ m) : SrcN n s := ⟨h.1, by have := h.2.1; omega, h.2.2⟩

theorem From_is (c : List UInt8) : spec_l00From c = some ⟨c, 0, 0⟩ := id rfl

theorem srcN_from {c : List UInt8} (h : c.length ≤ 1099511627776) : SrcN 900000000000 ⟨c, 0, 0⟩ := ⟨by show (0 : Int) ≤ 0; omega, by show (0 : Int) + _ ≤ _; omega, h⟩

theorem and255 (n : Int) : 0 ≤ IntKind.u64.wrap (BitVec.ofInt (IntKind.bits .u64) n &&& BitVec.ofInt (IntKind.bits .u64) 255).toNat ∧ IntKind.u64.wrap (BitVec.ofInt (IntKind.bits .u64) n &&& BitVec.ofInt (IntKind.bits .u64) 255).toNat ≤ 255 := by
  have h : (BitVec.ofInt (IntKind.bits .u64) n &&& BitVec.ofInt (IntKind.bits .u64) 255).toNat ≤ 255 := by
    rw [BitVec.toNat_and]
    refine Nat.le_trans Nat.and_le_right ?_
    decide
  generalize (BitVec.ofInt (IntKind.bits .u64) n &&& BitVec.ofInt (IntKind.bits .u64) 255).toNat = q at h ⊢
  unfold IntKind.wrap IntKind.bits
  simp [IntKind.signed]
  omega

theorem next_is {m : Nat} {s : L00Src} (h : SrcN (m + 1) s) : ∃ v s', spec_l00Src_next s = some (v, s') ∧ 0 ≤ v ∧ v ≤ 255 ∧ SrcN m s' := by
  obtain ⟨c, at_, seed⟩ := s
  obtain ⟨h1, h2, h3⟩ := h
  simp only at h1 h2 h3
  have w : IntKind.i64.wrap (at_ + 1) = at_ + 1 := wrap_i64 (by omega) (by omega)
  have hn : ∀ z, SrcN m ⟨c, at_ + 1, z⟩ := fun z => ⟨by show 0 ≤ at_ + 1; omega, by show at_ + 1 + (m : Int) ≤ _; omega, h3⟩
  have w255 : ∀ n, IntKind.i64.wrap (IntKind.u64.wrap (BitVec.ofInt (IntKind.bits .u64) n &&& BitVec.ofInt (IntKind.bits .u64) 255).toNat) = IntKind.u64.wrap (BitVec.ofInt (IntKind.bits .u64) n &&& BitVec.ofInt (IntKind.bits .u64) 255).toNat := fun n => by
    have := and255 n
    exact wrap_i64 (by omega) (by omega)
  unfold spec_l00Src_next
  simp only [w]
  by_cases c1 : at_ < (c.length : Int)
  · have b := u8_lt (c.getD at_.toNat default)
    have c2 : at_ + 1 ≤ (c.length : Int) := by omega
    rw [ixOk_of h1 (by omega)]
    simp only [c1, c2, decide_true, if_true, ck_true]
    exact ⟨_, _, rfl, by omega, by omega, hn _⟩
  · simp only [c1, decide_false, Bool.false_eq_true, if_false]
    have c2 : ¬ at_ + 1 ≤ (c.length : Int) := by omega
    simp only [c2, decide_false, Bool.false_eq_true, if_false]
    rw [shOk_of (by omega), ck_true, w255]
    exact ⟨_, _, rfl, (and255 _).1, (and255 _).2, hn _⟩

theorem pick_is {m : Nat} {s : L00Src} (h : SrcN (m + 2) s) {n : Int} (hn : n ≤ 9223372036854775807) : ∃ v s', spec_l00Src_pick s n = some (v, s') ∧ 0 ≤ v ∧ (1 ≤ n → v < n) ∧ (n ≤ 1 → v = 0) ∧ SrcN m s' := by
  unfold spec_l00Src_pick
  by_cases c : n ≤ 1
  · simp only [c, decide_true, if_true]
    exact ⟨0, s, rfl, by omega, by omega, fun _ => rfl, h.le (by omega)⟩
  · obtain ⟨v1, s1, e1, a1, b1, h1⟩ := next_is h
    obtain ⟨v2, s2, e2, a2, b2, h2⟩ := next_is h1
    simp only [c, decide_false, Bool.false_eq_true, if_false, e1, Option.bind_some]
    by_cases c2 : 200 < n
    · have w1 : IntKind.i64.wrap (v1 * 256) = v1 * 256 := wrap_i64 (by omega) (by omega)
      have w2 : IntKind.i64.wrap (v1 * 256 + v2) = v1 * 256 + v2 := wrap_i64 (by omega) (by omega)
      simp only [c2, decide_true, if_true, e2, Option.bind_some, nz_of (show n ≠ 0 by omega), ck_true, w1, w2, Int.tmod_eq_emod_of_nonneg (show 0 ≤ v1 * 256 + v2 by omega)]
      exact ⟨_, _, rfl, Int.emod_nonneg _ (by omega), fun _ => Int.emod_lt_of_pos _ (by omega), fun hc => hc.elim, h2⟩
    · simp only [c2, decide_false, Bool.false_eq_true, if_false, nz_of (show n ≠ 0 by omega), ck_true, Int.tmod_eq_emod_of_nonneg a1]
      exact ⟨_, _, rfl, Int.emod_nonneg _ (by omega), fun _ => Int.emod_lt_of_pos _ (by omega), fun hc => hc.elim, h1.le (by omega)⟩

end Go.Proofs.YtambhaccpbhnhaaGreatDoor
