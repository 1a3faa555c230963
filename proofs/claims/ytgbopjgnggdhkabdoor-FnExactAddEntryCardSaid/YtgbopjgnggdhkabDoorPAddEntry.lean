/- The plain law of AddEntry. No condition. -/
import Derived.Test.YtgbopjgnggdhkabDoorHLogE
namespace Go.Proofs.YtgbopjgnggdhkabDoor
open Go Go.RowKit
set_option linter.unusedSimpArgs false
set_option linter.unusedVariables false

theorem lineOf_is {e : Entry} (h : oneN e = true) {n : Int} (h0 : 0 ≤ n) (h1 : n ≤ 65520) : impl_lineOf e n = some (((wordsN e ++ [32]) ++ Lib.itoa n) ++ [10]) := by
  have l1 := words_len h
  have l2 := itoa_len (n := n) ⟨by omega, by omega⟩
  unfold impl_lineOf
  rw [words_is h, Decimal_is (n := n) ⟨by omega, by omega⟩]
  simp only [Option.bind_some]
  rw [catOk_of (by simp; omega), ck_true, catOk_of (by simp; omega), ck_true, catOk_of (by simp; omega), ck_true]

theorem last_is {es : List Entry} {d : Int} (h0 : 0 ≤ d) (hl : es.length ≤ 1048576) :
    ((decide (0 < (es.length : Int))) && (decide (d < ((es.getD (IntKind.i64.wrap ((es.length : Int) - 1)).toNat default).Day)))) = decide (d < dayOf es) := by
  unfold dayOf
  by_cases h : es.length = 0
  · have e : decide ((0 : Int) < (es.length : Int)) = false := decide_eq_false (by omega)
    rw [e, if_pos h, Bool.false_and]
    exact (decide_eq_false (by omega)).symm
  · have e : decide ((0 : Int) < (es.length : Int)) = true := decide_eq_true (by omega)
    have w : IntKind.i64.wrap ((es.length : Int) - 1) = ((es.length - 1 : Nat) : Int) := by rw [wrap_i64 (by omega) (by omega)]; omega
    rw [e, if_neg h, Bool.true_and, w, Int.toNat_natCast]

theorem AddEntry_same {log : List UInt8} {e : Entry} (hl : log.length ≤ 1048576) : ∃ (out : List UInt8) (c : Int), spec_AddEntry log e = some (out, c) ∧ impl_AddEntry log e = some (out, c) := by
  unfold spec_AddEntry impl_AddEntry
  obtain ⟨r, e1, hr⟩ := l27Code_is hl
  obtain ⟨es, last, e2, h1, h2⟩ := wholeLog_is hl
  rw [e1, e2]
  simp only [Option.bind_some]
  by_cases h : codeP log = 0
  · obtain ⟨rfl, rfl⟩ := h1 h
    obtain rfl := hr h
    obtain ⟨b1, b2, b3⟩ := code_ok h
    have hi := logP_inv log
    have e0 : (codeP log == 0) = true := by rw [h]; rfl
    simp only [e0, Bool.not_true, Bool.false_eq_true, if_false, l27Ok_is, ValidEntry_is, Option.bind_some]
    cases hone : oneN e
    · exact ⟨_, _, rfl, rfl⟩
    · have hin := oneN_in hone
      have k : (!(decide (0 < ((logP log).1.length : Int))) || ixOk (IntKind.i64.wrap (((logP log).1.length : Int) - 1)) (logP log).1.length) = true := by
        by_cases c : (logP log).1.length = 0
        · simp [c]
        · rw [wrap_i64 (by omega) (by omega), ixOk_of (by omega) (by omega), Bool.or_true]
      rw [day_is (log := log) (s := logP log) (by omega)]
      simp only [Bool.not_true, Bool.false_eq_true, if_false, k, ck_true, Option.bind_some, last_is (es := (logP log).1) (d := e.Day) hin.1 (by omega)]
      cases hd : decide (e.Day < dayOf (logP log).1)
      · obtain ⟨s1, s2, s3, s4⟩ := stampF_is hone hi.lo hi.hi
        have lw := words_len hone
        have ls := itoa_len (n := stampF (logP log).2.2 e) ⟨by omega, by omega⟩
        simp only [Bool.false_eq_true, if_false, l27Words_is hone, Option.bind_some, show (rOf log (logP log)).stamp_ = (logP log).2.2 from rfl, s1, s2, l27Line_is hone s3 s4, lineOf_is hone s3 s4]
        rw [catOk_of (by simp; omega), ck_true]
        split
        · exact ⟨_, _, rfl, rfl⟩
        · exact ⟨_, _, rfl, rfl⟩
      · exact ⟨_, _, rfl, rfl⟩
  · have e0 : (codeP log == 0) = false := beq_eq_false_iff_ne.2 h
    simp only [e0, Bool.not_false, if_true]
    exact ⟨_, _, rfl, rfl⟩

theorem law_AddEntry {aLog : List UInt8} {aE : Entry} (wl : aLog.length ≤ maxLen) (w : R64 aE.Day ∧ aE.What.length ≤ maxLen ∧ R64 aE.Value) : laws_FnExactAddEntry aLog aE = some true := by
  unfold laws_FnExactAddEntry
  by_cases h : 1048576 < (aLog.length : Int)
  · simp [h]
  · obtain ⟨z, hz, _⟩ := szEntry_is (x := aE) (n := 1048576) (by decide) (by decide) w.2.1
    obtain ⟨r, c, e1, e2⟩ := AddEntry_same (log := aLog) (e := aE) (by omega)
    simp only [h, decide_false, hz, Option.bind_some, toEntry_is, e1, e2, beq_self_eq_true, Bool.not_true, Bool.or_self, Bool.false_eq_true, if_false, ite_self]

end Go.Proofs.YtgbopjgnggdhkabDoor
