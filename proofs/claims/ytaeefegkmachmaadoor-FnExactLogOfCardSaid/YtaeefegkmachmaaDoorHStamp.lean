/- What typed forms say: entries, their words and stamps. No condition. -/
import Derived.Test.YtaeefegkmachmaaDoorHName
import Derived.Test.YtaeefegkmachmaaDoorHDec
namespace Go.Proofs.YtaeefegkmachmaaDoor
open Go Go.RowKit
set_option linter.unusedSimpArgs false
set_option linter.unusedVariables false

def oneN (e : Entry) : Bool := ((decide (0 ≤ e.Day) && decide (e.Day ≤ 100000)) && nameB e.What) && (decide (-1000000 ≤ e.Value) && decide (e.Value ≤ 1000000))

theorem l27Ok_is (e : Entry) : spec_l27Ok e = some (oneN e) := by
  unfold spec_l27Ok oneN
  simp only [spec_l27Day, spec_l00In_is, spec_IsName_is, Option.bind_some, Option.isSome_some, Option.getD_some, Bool.or_true, ck_true]

theorem ValidEntry_is (e : Entry) : impl_ValidEntry e = some (oneN e) := by
  unfold impl_ValidEntry oneN
  simp only [impl_in_is, impl_IsName_is, Option.bind_some, Option.isSome_some, Option.getD_some, Bool.or_true, ck_true]

theorem nameB_len {s : List UInt8} (h : nameB s = true) : 1 ≤ s.length ∧ s.length ≤ 12 := by
  unfold nameB at h
  simp only [Bool.and_eq_true, decide_eq_true_eq] at h
  exact ⟨h.1, h.2.1⟩

theorem oneN_in {e : Entry} (h : oneN e = true) : 0 ≤ e.Day ∧ e.Day ≤ 100000 ∧ e.What.length ≤ 12 ∧ -1000000 ≤ e.Value ∧ e.Value ≤ 1000000 := by
  unfold oneN at h
  simp only [Bool.and_eq_true, decide_eq_true_eq] at h
  obtain ⟨⟨⟨h1, h2⟩, h3⟩, h4, h5⟩ := h
  exact ⟨h1, h2, (nameB_len h3).2, h4, h5⟩

def wordsN (e : Entry) : List UInt8 := (((Lib.itoa e.Day ++ [32]) ++ e.What) ++ [32]) ++ Lib.itoa e.Value

theorem words_len {e : Entry} (h : oneN e = true) : (wordsN e).length ≤ 60 := by
  obtain ⟨h1, h2, h3, h4, h5⟩ := oneN_in h
  have l1 := itoa_len (n := e.Day) ⟨by omega, by omega⟩
  have l2 := itoa_len (n := e.Value) ⟨by omega, by omega⟩
  simp only [wordsN, List.length_append, List.length_cons, List.length_nil]
  omega

theorem l27Words_is {e : Entry} (h : oneN e = true) : spec_l27Words e = some (wordsN e) := by
  obtain ⟨h1, h2, h3, h4, h5⟩ := oneN_in h
  have l1 := itoa_len (n := e.Day) ⟨by omega, by omega⟩
  have l2 := itoa_len (n := e.Value) ⟨by omega, by omega⟩
  unfold spec_l27Words
  rw [l01Dec_is (n := e.Day) ⟨by omega, by omega⟩, l01Dec_is (n := e.Value) ⟨by omega, by omega⟩]
  simp only [Option.bind_some]
  rw [catOk_of (by simp; omega), ck_true, catOk_of (by simp; omega), ck_true, catOk_of (by simp; omega), ck_true, catOk_of (by simp; omega), ck_true]
  rfl

theorem words_is {e : Entry} (h : oneN e = true) : impl_Entry_words e = some (wordsN e) := by
  obtain ⟨h1, h2, h3, h4, h5⟩ := oneN_in h
  have l1 := itoa_len (n := e.Day) ⟨by omega, by omega⟩
  have l2 := itoa_len (n := e.Value) ⟨by omega, by omega⟩
  unfold impl_Entry_words
  rw [Decimal_is (n := e.Day) ⟨by omega, by omega⟩, Decimal_is (n := e.Value) ⟨by omega, by omega⟩]
  simp only [Option.bind_some]
  rw [catOk_of (by simp; omega), ck_true, catOk_of (by simp; omega), ck_true, catOk_of (by simp; omega), ck_true, catOk_of (by simp; omega), ck_true]
  rfl

theorem stamp_step (w : List UInt8) : impl_stamp_l1 w (w.length : Int) = spec_l27Stamp_l1 w := id rfl

theorem stamp_loop {w : List UInt8} (hl : w.length ≤ 1099511627776) {n : Int} (h0 : 0 ≤ n) (h1 : n ≤ 65520) : ∃ s, whileE (spec_l27Stamp_l1 w) (n, 0) = some s ∧ 0 ≤ s ∧ s ≤ 65520 :=
  while_post (step := spec_l27Stamp_l1 w) (fun s => 0 ≤ s.1 ∧ s.1 ≤ 65520 ∧ ∃ i : Nat, s.2 = (i : Int) ∧ i ≤ w.length) (fun s => 0 ≤ s ∧ s ≤ 65520) (fun s => w.length - s.2.toNat) (by
    rintro ⟨s, ii⟩ ⟨h1, h2, i, rfl, hi⟩
    simp only at h1 h2
    by_cases h : i < w.length
    · left
      have hb := u8_lt (w.getD i 0)
      have w1 : IntKind.i64.wrap (31 * s) = 31 * s := wrap_i64 (by omega) (by omega)
      have w2 : IntKind.i64.wrap (31 * s + ((w.getD i 0).toNat : Int)) = 31 * s + ((w.getD i 0).toNat : Int) := wrap_i64 (by omega) (by omega)
      have t1 : (31 * s + ((w.getD i 0).toNat : Int)).tmod 65521 = (31 * s + ((w.getD i 0).toNat : Int)) % 65521 := Int.tmod_eq_emod_of_nonneg (by omega)
      simp only [spec_l27Stamp_l1, Int.ofNat_lt, h, decide_true, if_true, ixOk_nat, ck_true, Int.toNat_natCast, wrap_nat1 (show i < 9223372036854775807 by omega), nz_of (show (65521 : Int) ≠ 0 by decide), w1, w2, t1]
      exact ⟨_, rfl, ⟨by show 0 ≤ _ % 65521; omega, by show _ % 65521 ≤ 65520; omega, i + 1, rfl, by omega⟩, by simp only [Int.toNat_natCast]; omega⟩
    · right
      exact ⟨s, by simp [spec_l27Stamp_l1, h], h1, h2⟩) (s := (n, 0)) ⟨h0, h1, 0, rfl, by omega⟩

theorem stamp_is {e : Entry} (h : oneN e = true) {n : Int} (h0 : 0 ≤ n) (h1 : n ≤ 65520) : ∃ s, spec_l27Stamp n (wordsN e) = some s ∧ impl_stamp n e = some s ∧ 0 ≤ s ∧ s ≤ 65520 := by
  have w1 : IntKind.i64.wrap (n + 23) = n + 23 := wrap_i64 (by omega) (by omega)
  have t1 : (n + 23).tmod 65521 = (n + 23) % 65521 := Int.tmod_eq_emod_of_nonneg (by omega)
  have hl := words_len h
  obtain ⟨s, hs, s0, s1⟩ := stamp_loop (w := wordsN e) (by omega) (n := (n + 23) % 65521) (by omega) (by omega)
  refine ⟨s, ?_, ?_, s0, s1⟩
  · unfold spec_l27Stamp
    rw [nz_of (show (65521 : Int) ≠ 0 by decide), ck_true, w1, t1, hs]; rfl
  · unfold impl_stamp
    rw [nz_of (show (65521 : Int) ≠ 0 by decide), ck_true, words_is h]
    simp only [Option.bind_some, stamp_step, w1, t1, hs]

end Go.Proofs.YtaeefegkmachmaaDoor
