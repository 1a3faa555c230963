/- What typed forms say: spoilt texts, and the draws of dates and times. No condition. -/
import Derived.Test.YtmpmmodbigjdgaaDoorHDrawA
import Derived.Test.YtmpmmodbigjdgaaDoorHDrawO
import Derived.Test.YtmpmmodbigjdgaaDoorHDrawT
import Derived.Test.YtmpmmodbigjdgaaDoorHDateT
namespace Go.Proofs.YtmpmmodbigjdgaaDoor
open Go Go.RowKit
set_option linter.unusedSimpArgs false
set_option linter.unusedVariables false

theorem l01Spoil_is {m : Nat} {s : L00Src} (h : SrcN (m + 6) s) {t : List UInt8} (ht : t.length ≤ 1000000) : ∃ l s', spec_l01Spoil s t = some (l, s') ∧ l.length ≤ t.length + 1 := by
  unfold spec_l01Spoil
  obtain ⟨v, s1, e1, v0, v1, _, h1⟩ := pick_is (m := m + 4) h (n := 5) (by omega)
  simp only [e1, Option.bind_some]
  by_cases c0 : (v == 0) = true
  · have w : IntKind.i64.wrap ((t.length : Int) + 1) = (t.length : Int) + 1 := wrap_i64 (by omega) (by omega)
    obtain ⟨a, s2, e2, a0, a1, _, h2⟩ := pick_is (m := m + 2) h1 (n := (t.length : Int) + 1) (by omega)
    have a2 := a1 (by omega)
    obtain ⟨x, s3, e3, hx, _⟩ := text_is (m := m) h2 (l := [([32] : List UInt8), ([48] : List UInt8), ([45] : List UInt8), ([120] : List UInt8), ([49] : List UInt8), ([57] : List UInt8), ([46] : List UInt8)]) (by simp) (by simp)
    have hx1 : x.length = 1 := by
      simp only [List.mem_cons, List.not_mem_nil, or_false] at hx
      rcases hx with rfl | rfl | rfl | rfl | rfl | rfl | rfl <;> rfl
    have l1 : (cut t 0 a).length ≤ a.toNat := by simp [cut]; omega
    have l2 : (cut t a (t.length : Int)).length ≤ t.length - a.toNat := by simp [cut]
    simp only [c0, if_true, w, e2, e3, Option.bind_some]
    rw [cutOk_of (by omega) a0 (by omega), ck_true, ck_of (show catOk _ _ = true by simp [catOk]; omega), cutOk_of a0 (by omega) (by omega), ck_true, ck_of (show catOk _ _ = true by simp only [catOk, List.length_append]; simp; omega)]
    exact ⟨_, _, rfl, by simp only [List.length_append]; omega⟩
  · by_cases c1 : (v == 1) = true
    · by_cases ct : t = []
      · subst ct
        simp only [c0, c1, if_true]
        exact ⟨_, _, rfl, by simp⟩
      · have hb : (!(t == ([] : List UInt8))) = true := by simpa using ct
        have hp : 0 < t.length := by cases t with | nil => exact absurd rfl ct | cons => simp
        obtain ⟨a, s2, e2, a0, a1, _, h2⟩ := pick_is (m := m + 2) h1 (n := (t.length : Int)) (by omega)
        have a2 := a1 (by omega)
        have w : IntKind.i64.wrap (a + 1) = a + 1 := wrap_i64 (by omega) (by omega)
        have l1 : (cut t 0 a).length ≤ a.toNat := by simp [cut]; omega
        have l2 : (cut t (a + 1) (t.length : Int)).length ≤ t.length - (a + 1).toNat := by simp [cut]
        simp only [c0, c1, hb, if_true, if_false, Bool.false_eq_true, e2, Option.bind_some, w]
        rw [cutOk_of (by omega) a0 (by omega), ck_true, cutOk_of (by omega) (by omega) (by omega), ck_true, ck_of (show catOk _ _ = true by simp [catOk]; omega)]
        exact ⟨_, _, rfl, by simp only [List.length_append]; omega⟩
    · simp only [c0, c1, if_false, Bool.false_eq_true]
      exact ⟨_, _, rfl, by omega⟩


theorem l03Day_is {m : Nat} {s : L00Src} (h : SrcN (m + 6) s) : ∃ v s', spec_l03Day s = some (v, s') ∧ SrcN m s' := by
  unfold spec_l03Day
  obtain ⟨v, s1, e1, h1⟩ := one_is (m := m + 4) h (n := 10) (by omega)
  rw [e1, Option.bind_some]
  cases v
  · obtain ⟨a, s2, e2, a0, a1, _, h2⟩ := pick_is (m := m + 2) h1 (n := 370) (by omega)
    obtain ⟨b, s3, e3, b0, b1, _, h3⟩ := pick_is (m := m) h2 (n := 270) (by omega)
    simp only [Bool.false_eq_true, if_false, e2, e3, Option.bind_some]
    exact ⟨_, _, rfl, h3⟩
  · obtain ⟨a, s2, e2, ha, h2⟩ := among_is (m := m + 2) h1 (l := [(-1), 0, 100000, 100001, 9223372036854775807]) (by simp) (by simp)
    simp only [if_true, e2, Option.bind_some]
    exact ⟨_, _, rfl, h2.le (by omega)⟩

theorem l03Bent_is {m : Nat} {s : L00Src} (h : SrcN (m + 10) s) : ∃ d s', spec_l03Bent s = some (d, s') ∧ SrcN m s' := by
  unfold spec_l03Bent
  obtain ⟨a, s1, e1, _, _, _, h1⟩ := pick_is (m := m + 8) h (n := 270) (by omega)
  obtain ⟨b, s2, e2, _, _, _, h2⟩ := pick_is (m := m + 6) h1 (n := 12) (by omega)
  obtain ⟨c, s3, e3, _, _, _, h3⟩ := pick_is (m := m + 4) h2 (n := 28) (by omega)
  obtain ⟨v, s4, e4, _, _, _, h4⟩ := pick_is (m := m + 2) h3 (n := 10) (by omega)
  simp only [e1, e2, e3, e4, Option.bind_some]
  split
  · obtain ⟨x, s5, e5, _, h5⟩ := among_is (m := m) h4 (l := [(-1), 0, 29, 30, 31, 32, (-9223372036854775808)]) (by simp) (by simp)
    rw [e5]; exact ⟨_, _, rfl, h5⟩
  · split
    · obtain ⟨x, s5, e5, _, h5⟩ := among_is (m := m) h4 (l := [(-1), 0, 13, 9223372036854775807]) (by simp) (by simp)
      rw [e5]; exact ⟨_, _, rfl, h5⟩
    · split
      · obtain ⟨x, s5, e5, _, h5⟩ := among_is (m := m) h4 (l := [(-1), 2000, 2001, 2274, 2275, 2300, 2301, 9223372036854775807]) (by simp) (by simp)
        rw [e5]; exact ⟨_, _, rfl, h5⟩
      · split
        · obtain ⟨x, s5, e5, _, _, _, h5⟩ := pick_is (m := m) h4 (n := 60) (by omega)
          rw [e5]; exact ⟨_, _, rfl, h5⟩
        · split
          · obtain ⟨x, s5, e5, _, _, _, h5⟩ := pick_is (m := m) h4 (n := 3) (by omega)
            rw [e5]; exact ⟨_, _, rfl, h5⟩
          · exact ⟨_, _, rfl, h4.le (by omega)⟩

theorem l03When_is {m : Nat} {s : L00Src} (h : SrcN (m + 6) s) : ∃ v s', spec_l03When s = some (v, s') ∧ R64 v ∧ SrcN m s' := by
  unfold spec_l03When
  obtain ⟨v, s1, e1, h1⟩ := one_is (m := m + 4) h (n := 10) (by omega)
  rw [e1, Option.bind_some]
  cases v
  · obtain ⟨a, s2, e2, a0, a1, _, h2⟩ := pick_is (m := m + 2) h1 (n := 999) (by omega)
    obtain ⟨b, s3, e3, b0, b1, _, h3⟩ := pick_is (m := m) h2 (n := 10000) (by omega)
    simp only [Bool.false_eq_true, if_false, e2, e3, Option.bind_some]
    exact ⟨_, _, rfl, wrap_in _, h3⟩
  · obtain ⟨a, s2, e2, ha, h2⟩ := among_is (m := m + 2) h1 (l := [(-1), 0, 10000000, 10000001, (-9223372036854775808)]) (by simp) (by simp)
    simp only [if_true, e2, Option.bind_some]
    refine ⟨_, _, rfl, ?_, h2.le (by omega)⟩
    simp only [List.mem_cons, List.not_mem_nil, or_false] at ha
    simp only [R64]
    omega

theorem DrawReadDate_is {c : List UInt8} (h : c.length ≤ 1099511627776) : ∃ l, spec_DrawReadDate c = some l := by
  unfold spec_DrawReadDate
  rw [From_is, Option.bind_some]
  obtain ⟨d, s1, e1, h1⟩ := l03Bent_is (m := 800000000000) ((srcN_from h).le (by omega))
  rw [e1, Option.bind_some, spec_ValidDate_is, Option.bind_some]
  cases hv : validD d
  · obtain ⟨x, s2, e2, _⟩ := text_is (m := 700000000000) (h1.le (by omega)) (l := [([] : List UInt8), ([50, 48, 48, 49, 45, 49, 45, 49] : List UInt8), ([50, 48, 48, 49, 45, 48, 50, 45, 50, 57] : List UInt8), ([50, 48, 48, 49, 45, 49, 51, 45, 48, 49] : List UInt8), ([50, 48, 48, 48, 45, 49, 50, 45, 51, 49] : List UInt8), ([50, 48, 48, 49, 47, 48, 49, 47, 48, 49] : List UInt8)]) (by simp) (by simp)
    simp only [Bool.not_false, if_true, e2, Option.bind_some]
    exact ⟨_, rfl⟩
  · obtain ⟨v, s2, e2, h2⟩ := one_is (m := 700000000000) (h1.le (by omega)) (n := 3) (by omega)
    simp only [Bool.not_true, Bool.false_eq_true, if_false, l03Text_is hv, e2, Option.bind_some]
    cases v
    · exact ⟨_, rfl⟩
    · obtain ⟨l, s3, e3, _⟩ := l01Spoil_is (m := 600000000000) (h2.le (by omega)) (t := textD d) (by rw [textD_len]; omega)
      simp only [if_true, e3, Option.bind_some]
      exact ⟨_, rfl⟩

end Go.Proofs.YtmpmmodbigjdgaaDoor
