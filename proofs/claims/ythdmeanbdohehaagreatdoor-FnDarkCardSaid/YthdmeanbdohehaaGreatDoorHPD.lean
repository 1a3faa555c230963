/- Plain lemmas, several texts in one. No condition. -/
import Derived.Test.YthdmeanbdohehaaGreatDoorDKL
import Derived.Test.YthdmeanbdohehaaGreatDoorHPA
namespace Go.Proofs.YthdmeanbdohehaaGreatDoor
open Go Go.RowKit
set_option linter.unusedSimpArgs false
set_option linter.unusedVariables false
def HH (m : Nat) (s : Aw) : Prop := 0 ≤ s.at_ ∧ s.at_ + m ≤ 1000000000000 ∧ s.code_.length ≤ 1099511627776
theorem HH.le {m n : Nat} {s : Aw} (h : HH m s) (hn : n ≤ m) : HH n s := ⟨h.1, by have := h.2.1; omega, h.2.2⟩
theorem Lk (c : List UInt8) : DT c = some ⟨c, 0, 0⟩ := id rfl
theorem IC {c : List UInt8} (h : c.length ≤ 1099511627776) : HH 900000000000 ⟨c, 0, 0⟩ := ⟨by show (0 : Int) ≤ 0; omega, by show (0 : Int) + _ ≤ _; omega, h⟩
theorem ah (n : Int) : 0 ≤ IntKind.u64.wrap (BitVec.ofInt (IntKind.bits .u64) n &&& BitVec.ofInt (IntKind.bits .u64) 255).toNat ∧ IntKind.u64.wrap (BitVec.ofInt (IntKind.bits .u64) n &&& BitVec.ofInt (IntKind.bits .u64) 255).toNat ≤ 255 := by
 have h : (BitVec.ofInt (IntKind.bits .u64) n &&& BitVec.ofInt (IntKind.bits .u64) 255).toNat ≤ 255 := by
  rw [BitVec.toNat_and]
  refine Nat.le_trans Nat.and_le_right ?_
  decide
 generalize (BitVec.ofInt (IntKind.bits .u64) n &&& BitVec.ofInt (IntKind.bits .u64) 255).toNat = q at h ⊢
 unfold IntKind.wrap IntKind.bits
 simp [IntKind.signed]
 omega
theorem bM {m : Nat} {s : Aw} (h : HH (m + 1) s) : ∃ v s', EJ s = some (v, s') ∧ 0 ≤ v ∧ v ≤ 255 ∧ HH m s' := by
 obtain ⟨c, at_, seed⟩ := s
 obtain ⟨h1, h2, h3⟩ := h
 simp only at h1 h2 h3
 have w : IntKind.i64.wrap (at_ + 1) = at_ + 1 := AX (by omega) (by omega)
 have hn : ∀ z, HH m ⟨c, at_ + 1, z⟩ := fun z => ⟨by show 0 ≤ at_ + 1; omega, by show at_ + 1 + (m : Int) ≤ _; omega, h3⟩
 have w255 : ∀ n, IntKind.i64.wrap (IntKind.u64.wrap (BitVec.ofInt (IntKind.bits .u64) n &&& BitVec.ofInt (IntKind.bits .u64) 255).toNat) = IntKind.u64.wrap (BitVec.ofInt (IntKind.bits .u64) n &&& BitVec.ofInt (IntKind.bits .u64) 255).toNat := fun n => by
  have := ah n
  exact AX (by omega) (by omega)
 unfold EJ
 simp only [w]
 by_cases c1 : at_ < (c.length : Int)
 ·have b := oB (c.getD at_.toNat default)
  have c2 : at_ + 1 ≤ (c.length : Int) := by omega
  rw [DL h1 (by omega)]
  simp only [c1, c2, decide_true, if_true, AN]
  exact ⟨_, _, rfl, by omega, by omega, hn _⟩
 ·simp only [c1, decide_false, Bool.false_eq_true, if_false]
  have c2 : ¬ at_ + 1 ≤ (c.length : Int) := by omega
  simp only [c2, decide_false, Bool.false_eq_true, if_false]
  rw [Mx (by omega), AN, w255]
  exact ⟨_, _, rfl, (ah _).1, (ah _).2, hn _⟩
theorem ED {m : Nat} {s : Aw} (h : HH (m + 2) s) {n : Int} (hn : n ≤ 9223372036854775807) : ∃ v s', AK s n = some (v, s') ∧ 0 ≤ v ∧ (1 ≤ n → v < n) ∧ (n ≤ 1 → v = 0) ∧ HH m s' := by
 unfold AK
 by_cases c : n ≤ 1
 ·simp only [c, decide_true, if_true]
  exact ⟨0, s, rfl, by omega, by omega, fun _ => rfl, h.le (by omega)⟩
 ·obtain ⟨v1, s1, e1, a1, b1, h1⟩ := bM h
  obtain ⟨v2, s2, e2, a2, b2, h2⟩ := bM h1
  simp only [c, decide_false, Bool.false_eq_true, if_false, e1, Option.bind_some]
  by_cases c2 : 200 < n
  ·have w1 : IntKind.i64.wrap (v1 * 256) = v1 * 256 := AX (by omega) (by omega)
   have w2 : IntKind.i64.wrap (v1 * 256 + v2) = v1 * 256 + v2 := AX (by omega) (by omega)
   simp only [c2, decide_true, if_true, e2, Option.bind_some, bL (show n ≠ 0 by omega), AN, w1, w2, Int.tmod_eq_emod_of_nonneg (show 0 ≤ v1 * 256 + v2 by omega)]
   exact ⟨_, _, rfl, Int.emod_nonneg _ (by omega), fun _ => Int.emod_lt_of_pos _ (by omega), fun hc => hc.elim, h2⟩
  ·simp only [c2, decide_false, Bool.false_eq_true, if_false, bL (show n ≠ 0 by omega), AN, Int.tmod_eq_emod_of_nonneg a1]
   exact ⟨_, _, rfl, Int.emod_nonneg _ (by omega), fun _ => Int.emod_lt_of_pos _ (by omega), fun hc => hc.elim, h1.le (by omega)⟩
end Go.Proofs.YthdmeanbdohehaaGreatDoor
namespace Go.Proofs.YthdmeanbdohehaaGreatDoor
open Go Go.RowKit
set_option linter.unusedSimpArgs false
set_option linter.unusedVariables false
theorem Id {m : Nat} {s : Aw} (h : HH (m + 2) s) {l : List Int} (h1 : 1 ≤ l.length) (h2 : l.length ≤ 1000) : ∃ v s', AP s l = some (v, s') ∧ v ∈ l ∧ HH m s' := by
 obtain ⟨v, s', e, a, b, _, h'⟩ := ED h (n := (l.length : Int)) (by omega)
 have := b (by omega)
 unfold AP
 rw [e]
 simp only [Option.bind_some]
 rw [DL a (by omega), AN]
 exact ⟨_, s', rfl, Fq (by omega) _, h'⟩
end Go.Proofs.YthdmeanbdohehaaGreatDoor
namespace Go.Proofs.YthdmeanbdohehaaGreatDoor
open Go Go.RowKit
set_option linter.unusedSimpArgs false
set_option linter.unusedVariables false
theorem JB {m : Nat} {s : Aw} (h : HH (m + 2) s) {n : Int} (hn : n ≤ 9223372036854775807) : ∃ v s', AS s n = some (v, s') ∧ HH m s' := by
 obtain ⟨v, s', e, _, _, _, h'⟩ := ED h hn
 exact ⟨v == 0, s', by unfold AS; rw [e]; rfl, h'⟩
end Go.Proofs.YthdmeanbdohehaaGreatDoor
namespace Go.Proofs.YthdmeanbdohehaaGreatDoor
open Go Go.RowKit
set_option linter.unusedSimpArgs false
set_option linter.unusedVariables false
theorem lf {m : Nat} {s : Aw} (h : HH (m + 2) s) {l : List (List UInt8)} (h1 : 1 ≤ l.length) (h2 : l.length ≤ 1000) : ∃ v s', Em s l = some (v, s') ∧ v ∈ l ∧ HH m s' := by
 obtain ⟨v, s', e, a, b, _, h'⟩ := ED h (n := (l.length : Int)) (by omega)
 have := b (by omega)
 unfold Em
 rw [e]
 simp only [Option.bind_some]
 rw [DL a (by omega), AN]
 exact ⟨_, s', rfl, Fq (by omega) _, h'⟩
end Go.Proofs.YthdmeanbdohehaaGreatDoor
namespace Go.Proofs.YthdmeanbdohehaaGreatDoor
open Go Go.RowKit
set_option linter.unusedSimpArgs false
set_option linter.unusedVariables false
theorem YX {m : Nat} {s : Aw} (h : HH (m + 6) s) {t : List UInt8} (ht : t.length ≤ 1000000) : ∃ l s', GP s t = some (l, s') ∧ l.length ≤ t.length + 1 := by
 unfold GP
 obtain ⟨v, s1, e1, v0, v1, _, h1⟩ := ED (m := m + 4) h (n := 5) (by omega)
 simp only [e1, Option.bind_some]
 by_cases c0 : (v == 0) = true
 ·have w : IntKind.i64.wrap ((t.length : Int) + 1) = (t.length : Int) + 1 := AX (by omega) (by omega)
  obtain ⟨a, s2, e2, a0, a1, _, h2⟩ := ED (m := m + 2) h1 (n := (t.length : Int) + 1) (by omega)
  have a2 := a1 (by omega)
  obtain ⟨x, s3, e3, hx, _⟩ := lf (m := m) h2 (l := [([32] : List UInt8), ([48] : List UInt8), ([45] : List UInt8), ([120] : List UInt8), ([49] : List UInt8), ([57] : List UInt8), ([46] : List UInt8)]) (by simp) (by simp)
  have hx1 : x.length = 1 := by
   simp only [List.mem_cons, List.not_mem_nil, or_false] at hx
   rcases hx with rfl | rfl | rfl | rfl | rfl | rfl | rfl <;> rfl
  have l1 : (cut t 0 a).length ≤ a.toNat := by simp [cut]; omega
  have l2 : (cut t a (t.length : Int)).length ≤ t.length - a.toNat := by simp [cut]
  simp only [c0, if_true, w, e2, e3, Option.bind_some]
  rw [Ib (by omega) a0 (by omega), AN, kj (show Es _ _ = true by simp [Es]; omega), Ib a0 (by omega) (by omega), AN, kj (show Es _ _ = true by simp only [Es, List.length_append]; simp; omega)]
  exact ⟨_, _, rfl, by simp only [List.length_append]; omega⟩
 ·by_cases c1 : (v == 1) = true
  ·by_cases ct : t = []
   ·subst ct
    simp only [c0, c1, if_true]
    exact ⟨_, _, rfl, by simp⟩
   ·have hb : (!(t == ([] : List UInt8))) = true := by simpa using ct
    have hp : 0 < t.length := by cases t with | nil => exact absurd rfl ct | cons => simp
    obtain ⟨a, s2, e2, a0, a1, _, h2⟩ := ED (m := m + 2) h1 (n := (t.length : Int)) (by omega)
    have a2 := a1 (by omega)
    have w : IntKind.i64.wrap (a + 1) = a + 1 := AX (by omega) (by omega)
    have l1 : (cut t 0 a).length ≤ a.toNat := by simp [cut]; omega
    have l2 : (cut t (a + 1) (t.length : Int)).length ≤ t.length - (a + 1).toNat := by simp [cut]
    simp only [c0, c1, hb, if_true, if_false, Bool.false_eq_true, e2, Option.bind_some, w]
    rw [Ib (by omega) a0 (by omega), AN, Ib (by omega) (by omega) (by omega), AN, kj (show Es _ _ = true by simp [Es]; omega)]
    exact ⟨_, _, rfl, by simp only [List.length_append]; omega⟩
  ·simp only [c0, c1, if_false, Bool.false_eq_true]
   exact ⟨_, _, rfl, by omega⟩
end Go.Proofs.YthdmeanbdohehaaGreatDoor
