/- What typed forms say: the draws of ReadNumber and BytesOfHex. No condition. -/
import Derived.Test.YtcfjogkgmkagiaaHDrawB
import Derived.Test.YtcfjogkgmkagiaaHDrawT
import Derived.Test.YtcfjogkgmkagiaaHNumR
import Derived.Test.YtcfjogkgmkagiaaHHex
namespace Go.Proofs.Ytcfjogkgmkagiaa
open Go Go.RowKit
set_option linter.unusedSimpArgs false
set_option linter.unusedVariables false

theorem DrawReadNumber_is {c : List UInt8} (h : c.length ≤ 1099511627776) : ∃ l, spec_DrawReadNumber c = some l := by
  unfold spec_DrawReadNumber
  rw [From_is, Option.bind_some]
  obtain ⟨v, s1, e1, v0, v1, _, h1⟩ := pick_is (m := 800000000000) ((srcN_from h).le (by omega)) (n := 3) (by omega)
  simp only [e1, Option.bind_some]
  by_cases c0 : (v == 0) = true
  · obtain ⟨l, s2, e2, hl, _⟩ := Bytes_is (m := 700000000000) (h1.le (by omega))
    simp only [c0, if_true, e2, Option.bind_some]
    exact ⟨_, rfl⟩
  · by_cases c1 : (v == 1) = true
    · obtain ⟨a, s2, e2, _⟩ := pick_is (m := 700000000000) (h1.le (by omega)) (n := 256) (by omega)
      simp only [c0, c1, if_true, e2, Option.bind_some]
      exact ⟨_, rfl⟩
    · obtain ⟨a, s2, e2, a0, a1, _, h2⟩ := pick_is (m := 700000000000) (h1.le (by omega)) (n := 100000) (by omega)
      have := a1 (by omega)
      obtain ⟨l, hl, e3, _⟩ := number_is (n := a) a0 (by omega)
      obtain ⟨l2, s3, e4, hl2, _⟩ := Bytes_is (m := 600000000000) (h2.le (by omega))
      simp only [c0, c1, if_false, Bool.false_eq_true, e2, e3, e4, Option.bind_some]
      rw [appOk_of (by omega), ck_true]
      exact ⟨_, rfl⟩

theorem l01Spoil_is {m : Nat} {s : L00Src} (h : SrcN (m + 6) s) {t : List UInt8} (ht : t.length ≤ 1000000) : ∃ l s', spec_l01Spoil s t = some (l, s') ∧ l.length ≤ t.length + 1 := by
  unfold spec_l01Spoil
  obtain ⟨v, s1, e1, v0, v1, _, h1⟩ := pick_is (m := m + 4) h (n := 5) (by omega)
  simp only [e1, Option.bind_some]
  by_cases c0 : (v == 0) = true
  · have w : IntKind.i64.wrap ((t.length : Int) + 1) = (t.length : Int) + 1 := wrap_i64 (by omega) (by omega)
    obtain ⟨a, s2, e2, a0, a1, _, h2⟩ := pick_is (m := m + 2) h1 (n := (t.length : Int) + 1) (by omega)
    have a2 := a1 (by omega)
    obtain ⟨x, s3, e3, hx, _⟩ := text_is (m := m) h2 (l := [([32] : List UInt8), ([48] : List UInt8), ([45] : List UInt8), ([120] : List UInt8), ([49] : List UInt8), ([57] : List UInt8), ([46] : List UInt8)]) (by simp) (by simp)
    have hx1 : x.length = 1 := by
      simp only [List.mem_cons, List.not_mem_nil, or_false] at hx
      rcases hx with rfl | rfl | rfl | rfl | rfl | rfl | rfl <;> rfl
    have l1 : (cut t 0 a).length ≤ a.toNat := by simp [cut]; omega
    have l2 : (cut t a (t.length : Int)).length ≤ t.length - a.toNat := by simp [cut]
    simp only [c0, if_true, w, e2, e3, Option.bind_some]
    rw [cutOk_of (by omega) a0 (by omega), ck_true, ck_of (show catOk _ _ = true by simp [catOk]; omega), cutOk_of a0 (by omega) (by omega), ck_true, ck_of (show catOk _ _ = true by simp only [catOk, List.length_append]; simp; omega)]
    exact ⟨_, _, rfl, by simp only [List.length_append]; omega⟩
  · by_cases c1 : (v == 1) = true
    · by_cases ct : t = []
      · subst ct
        simp only [c0, c1, if_true]
        exact ⟨_, _, rfl, by simp⟩
      · have hb : (!(t == ([] : List UInt8))) = true := by simpa using ct
        have hp : 0 < t.length := by cases t with | nil => exact absurd rfl ct | cons => simp
        obtain ⟨a, s2, e2, a0, a1, _, h2⟩ := pick_is (m := m + 2) h1 (n := (t.length : Int)) (by omega)
        have a2 := a1 (by omega)
        have w : IntKind.i64.wrap (a + 1) = a + 1 := wrap_i64 (by omega) (by omega)
        have l1 : (cut t 0 a).length ≤ a.toNat := by simp [cut]; omega
        have l2 : (cut t (a + 1) (t.length : Int)).length ≤ t.length - (a + 1).toNat := by simp [cut]
        simp only [c0, c1, hb, if_true, if_false, Bool.false_eq_true, e2, Option.bind_some, w]
        rw [cutOk_of (by omega) a0 (by omega), ck_true, cutOk_of (by omega) (by omega) (by omega), ck_true, ck_of (show catOk _ _ = true by simp [catOk]; omega)]
        exact ⟨_, _, rfl, by simp only [List.length_append]; omega⟩
    · simp only [c0, c1, if_false, Bool.false_eq_true]
      exact ⟨_, _, rfl, by omega⟩

end Go.Proofs.Ytcfjogkgmkagiaa
