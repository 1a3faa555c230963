/- What typed forms say: drawn bytes, and the draws of NumberBytes, FoldSign, UnfoldSign, HexOf, SumOfBytes. No condition. -/
import Derived.Test.YtcfjogkgmkagiaaHDrawA
import Derived.Test.YtcfjogkgmkagiaaHDrawO
import Derived.Test.YtcfjogkgmkagiaaEngTD
namespace Go.Proofs.Ytcfjogkgmkagiaa
open Go Go.RowKit
set_option linter.unusedSimpArgs false
set_option linter.unusedVariables false

theorem Bytes_is {m : Nat} {s : L00Src} (h : SrcN (m + 26) s) : ∃ l s', spec_l25Bytes s = some (l, s') ∧ l.length ≤ 11 ∧ SrcN m s' := by
  obtain ⟨v, s1, e1, v0, v1, _, h1⟩ := pick_is (m := m + 24) h (n := 12) (by omega)
  have v2 := v1 (by omega)
  obtain ⟨y, hy, q⟩ := while_post (step := spec_l25Bytes_l1) (fun x => ∃ K : Nat, x.2.2 = (K : Int) ∧ SrcN (m + 2 * K) x.1 ∧ x.2.1.length + K ≤ 11) (fun y => y.2.length ≤ 11 ∧ SrcN m y.1) (fun x => x.2.2.toNat) (by
    rintro ⟨s, out, k⟩ ⟨K, rfl, hs, hl⟩
    simp only at hs hl
    by_cases hk : 0 < K
    · obtain ⟨w, s2, e2, _, _, _, h2⟩ := pick_is (m := m + 2 * (K - 1)) (s := s) (hs.le (by omega)) (n := 256) (by omega)
      have hk' : (0 : Int) < (K : Int) := by omega
      have w1 : IntKind.i64.wrap ((K : Int) - 1) = ((K - 1 : Nat) : Int) := by rw [wrap_i64 (by omega) (by omega)]; omega
      refine .inl ⟨(s2, out ++ [toU8 (IntKind.u8.wrap w)], ((K - 1 : Nat) : Int)), ?_, ⟨K - 1, rfl, h2, by simp; omega⟩, by show ((K - 1 : Nat) : Int).toNat < (K : Int).toNat; omega⟩
      simp only [spec_l25Bytes_l1, hk', decide_true, if_true, e2, Option.bind_some, w1]
      rw [appOk_of (by simp; omega), ck_true]
    · have : K = 0 := by omega
      subst this
      exact .inr ⟨(s, out), by simp [spec_l25Bytes_l1], by simpa using hl, by simpa using hs⟩) (s := (s1, ([] : List UInt8), v)) ⟨v.toNat, by show v = _; omega, h1.le (by omega), by simp; omega⟩
  exact ⟨y.2, y.1, by unfold spec_l25Bytes; rw [e1]; simp only [Option.bind_some, hy], q.1, q.2⟩

theorem DrawNumberBytes_is {c : List UInt8} (h : c.length ≤ 1099511627776) : ∃ v, spec_DrawNumberBytes c = some v ∧ R64 v := by
  unfold spec_DrawNumberBytes
  rw [From_is, Option.bind_some]
  obtain ⟨v, s1, e1, h1⟩ := one_is (m := 800000000000) ((srcN_from h).le (by omega)) (n := 8) (by omega)
  rw [e1, Option.bind_some]
  cases hv : v
  · obtain ⟨a, s2, e2, a0, a1, _, h2⟩ := pick_is (m := 700000000000) (h1.le (by omega)) (n := 1000) (by omega)
    obtain ⟨b, s3, e3, b0, b1, _, h3⟩ := pick_is (m := 600000000000) (h2.le (by omega)) (n := 1000) (by omega)
    simp only [Bool.false_eq_true, if_false, e2, Option.bind_some, e3]
    exact ⟨_, rfl, wrap_in _⟩
  · obtain ⟨a, s2, e2, ha, _⟩ := among_is (m := 700000000000) (h1.le (by omega)) (l := [(-1), 0, 127, 128, 16383, 16384, (-9223372036854775808), 9223372036854775807]) (by simp) (by simp)
    simp only [if_true, e2, Option.bind_some]
    refine ⟨_, rfl, ?_⟩
    simp only [List.mem_cons, List.not_mem_nil, or_false] at ha
    simp only [R64]
    omega

theorem DrawFoldSign_is {c : List UInt8} (h : c.length ≤ 1099511627776) : ∃ v, spec_DrawFoldSign c = some v ∧ R64 v := by
  unfold spec_DrawFoldSign
  rw [From_is, Option.bind_some]
  obtain ⟨v, s1, e1, h1⟩ := one_is (m := 800000000000) ((srcN_from h).le (by omega)) (n := 8) (by omega)
  rw [e1, Option.bind_some]
  cases hv : v
  · obtain ⟨a, s2, e2, a0, a1, _, h2⟩ := pick_is (m := 700000000000) (h1.le (by omega)) (n := 2001) (by omega)
    simp only [Bool.false_eq_true, if_false, e2, Option.bind_some]
    exact ⟨_, rfl, wrap_in _⟩
  · obtain ⟨a, s2, e2, ha, _⟩ := among_is (m := 700000000000) (h1.le (by omega)) (l := [(-1000000000000000001), (-1000000000000000000), 0, 1000000000000000000, 1000000000000000001, (-9223372036854775808)]) (by simp) (by simp)
    simp only [if_true, e2, Option.bind_some]
    refine ⟨_, rfl, ?_⟩
    simp only [List.mem_cons, List.not_mem_nil, or_false] at ha
    simp only [R64]
    omega

theorem DrawUnfoldSign_is {c : List UInt8} (h : c.length ≤ 1099511627776) : ∃ v, spec_DrawUnfoldSign c = some v ∧ R64 v := by
  unfold spec_DrawUnfoldSign
  rw [From_is, Option.bind_some]
  obtain ⟨v, s1, e1, h1⟩ := one_is (m := 800000000000) ((srcN_from h).le (by omega)) (n := 8) (by omega)
  rw [e1, Option.bind_some]
  cases hv : v
  · obtain ⟨a, s2, e2, a0, a1, _, h2⟩ := pick_is (m := 700000000000) (h1.le (by omega)) (n := 2001) (by omega)
    have := a1 (by omega)
    simp only [Bool.false_eq_true, if_false, e2, Option.bind_some]
    exact ⟨_, rfl, by simp only [R64]; omega⟩
  · obtain ⟨a, s2, e2, ha, _⟩ := among_is (m := 700000000000) (h1.le (by omega)) (l := [(-1), 0, 1, 2000000000000000000, 2000000000000000001, 9223372036854775807]) (by simp) (by simp)
    simp only [if_true, e2, Option.bind_some]
    refine ⟨_, rfl, ?_⟩
    simp only [List.mem_cons, List.not_mem_nil, or_false] at ha
    simp only [R64]
    omega

theorem DrawHexOf_is {c : List UInt8} (h : c.length ≤ 1099511627776) : ∃ l, spec_DrawHexOf c = some l ∧ l.length ≤ 8001 := by
  unfold spec_DrawHexOf
  rw [From_is, Option.bind_some]
  obtain ⟨v, s1, e1, h1⟩ := one_is (m := 800000000000) ((srcN_from h).le (by omega)) (n := 24) (by omega)
  rw [e1, Option.bind_some]
  cases hv : v
  · obtain ⟨l, s2, e2, hl, _⟩ := Bytes_is (m := 700000000000) (h1.le (by omega))
    simp only [Bool.false_eq_true, if_false, e2, Option.bind_some]
    exact ⟨_, rfl, by omega⟩
  · obtain ⟨a, s2, e2, a0, a1, _, h2⟩ := pick_is (m := 700000000000) (h1.le (by omega)) (n := 2) (by omega)
    have := a1 (by omega)
    have w : IntKind.i64.wrap (8000 + a) = 8000 + a := wrap_i64 (by omega) (by omega)
    simp only [if_true, e2, Option.bind_some, w]
    rw [mkOk_of (by omega) (by omega) (by omega), ck_true]
    exact ⟨_, rfl, by rw [List.length_replicate]; omega⟩

theorem DrawSumOfBytes_is {c : List UInt8} (h : c.length ≤ 1099511627776) : ∃ l, spec_DrawSumOfBytes c = some l ∧ l.length ≤ 11 := by
  unfold spec_DrawSumOfBytes
  rw [From_is, Option.bind_some]
  obtain ⟨l, s2, e2, hl, _⟩ := Bytes_is (m := 700000000000) ((srcN_from h).le (by omega))
  simp only [e2, Option.bind_some]
  exact ⟨_, rfl, hl⟩

end Go.Proofs.Ytcfjogkgmkagiaa
