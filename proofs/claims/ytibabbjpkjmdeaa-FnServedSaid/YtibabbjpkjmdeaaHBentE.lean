/- What typed forms say: drawn estimates that are seldom not valid. No condition. -/
import Derived.Test.YtibabbjpkjmdeaaHDrawE
import Derived.Test.YtibabbjpkjmdeaaHDrawA
namespace Go.Proofs.Ytibabbjpkjmdeaa
open Go Go.RowKit
set_option linter.unusedSimpArgs false
set_option linter.unusedVariables false

theorem l02Bent_is {m : Nat} {s : L00Src} (h : SrcN (m + 10) s) : ∃ v s', spec_l02Bent s = some (v, s') ∧ SrcN m s' := by
  unfold spec_l02Bent
  obtain ⟨b, s1, e1, h1⟩ := one_is (m := m + 8) h (n := 14) (by omega)
  rw [e1, Option.bind_some]
  cases b
  · simp only [Bool.false_eq_true, if_false]
    unfold spec_l02Draw
    obtain ⟨b2, s2, e2, h2⟩ := one_is (m := m + 6) h1 (n := 8) (by omega)
    rw [e2, Option.bind_some]
    cases b2
    · obtain ⟨v, s3, e3, _, _, _, h3⟩ := pick_is (m := m + 4) h2 (n := 60) (by omega)
      simp only [Bool.false_eq_true, if_false, e3, Option.bind_some]
      exact ⟨_, _, rfl, h3.le (by omega)⟩
    · obtain ⟨v, s3, e3, _, _, _, h3⟩ := pick_is (m := m + 4) h2 (n := 22001) (by omega)
      simp only [if_true, e3, Option.bind_some]
      exact ⟨_, _, rfl, h3.le (by omega)⟩
  · obtain ⟨v, s3, e3, _, h3⟩ := among_is (m := m + 6) h1 (l := [(-2001), (-2000), 20000, 20001, (-9223372036854775808), 9223372036854775807]) (by simp) (by simp)
    simp only [if_true, e3, Option.bind_some]
    exact ⟨_, _, rfl, h3.le (by omega)⟩

theorem l06BentOne_is {m : Nat} {s : L00Src} (h : SrcN (m + 40) s) : ∃ e s', spec_l06BentOne s = some (e, s') ∧ SrcN m s' := by
  unfold spec_l06BentOne
  obtain ⟨e, s1, e1, _, h1⟩ := l06New_is (m := m + 20) h
  obtain ⟨v, s2, e2, _, _, _, h2⟩ := pick_is (m := m + 18) h1 (n := 24) (by omega)
  rw [e1, Option.bind_some, e2, Option.bind_some]
  split
  · obtain ⟨x, s3, e3, _, h3⟩ := among_is (m := m + 10) (h2.le (by omega)) (l := [(-1), 0, 10000000, 10000001]) (by simp) (by simp)
    rw [e3]; exact ⟨_, _, rfl, h3.le (by omega)⟩
  · split
    · obtain ⟨x, s3, e3, _, h3⟩ := text_is (m := m + 10) (h2.le (by omega)) (l := [([] : List UInt8), ([77, 105, 114, 97] : List UInt8), ([97, 32, 98] : List UInt8)]) (by simp) (by simp)
      rw [e3]; exact ⟨_, _, rfl, h3.le (by omega)⟩
    · split
      · obtain ⟨x, s3, e3, _, h3⟩ := text_is (m := m + 10) (h2.le (by omega)) (l := [([] : List UInt8), ([65, 66] : List UInt8)]) (by simp) (by simp)
        rw [e3]; exact ⟨_, _, rfl, h3.le (by omega)⟩
      · split
        · obtain ⟨x, s3, e3, h3⟩ := l02Bent_is (m := m) (h2.le (by omega))
          rw [e3]; exact ⟨_, _, rfl, h3⟩
        · exact ⟨_, _, rfl, h2.le (by omega)⟩

theorem bent_loop (s : L00Src) {n : Int} (h0 : 0 ≤ n) (h1 : n ≤ 200) : ∃ l, whileE (spec_l06Bent_l1 s) (([] : List Estimate), n) = some l ∧ l.length ≤ 1000 := by
  obtain ⟨y, hy, q⟩ := while_post (step := spec_l06Bent_l1 s) (fun x => 0 ≤ x.2 ∧ (x.1.length : Int) + x.2 ≤ 200) (fun y => y.length ≤ 1000) (fun x => x.2.toNat) (by
    rintro ⟨l, k⟩ ⟨k0, k1⟩
    simp only at k0 k1
    by_cases c : 0 < k
    · left
      simp only [spec_l06Bent_l1, c, decide_true, if_true]
      rw [appOk_of (by simp; omega), ck_true, wrap_i64 (n := k - 1) (by omega) (by omega)]
      exact ⟨_, rfl, ⟨by show 0 ≤ k - 1; omega, by show ((l ++ [_]).length : Int) + (k - 1) ≤ 200; simp; omega⟩, by show (k - 1).toNat < k.toNat; omega⟩
    · right
      exact ⟨l, by simp [spec_l06Bent_l1, c], by omega⟩) (s := (([] : List Estimate), n)) ⟨h0, by simp; omega⟩
  exact ⟨y, hy, q⟩

theorem l06Bent_is {m : Nat} {s : L00Src} (h : SrcN (m + 1000) s) : ∃ l s', spec_l06Bent s = some (l, s') ∧ l.length ≤ 1000 ∧ SrcN m s' := by
  unfold spec_l06Bent
  obtain ⟨l, s1, e1, _, hl, h1⟩ := l06Draw_is (m := m + 600) h (most := 10) (by omega)
  have e1' : spec_l06Draw s 10 = some (l, s1) := e1
  obtain ⟨v, s2, e2, _, _, _, h2⟩ := pick_is (m := m + 500) (h1.le (by omega)) (n := 20) (by omega)
  rw [e1', Option.bind_some, e2, Option.bind_some]
  simp only
  split
  · obtain ⟨e, s3, e3, h3⟩ := l06BentOne_is (m := m + 400) (h2.le (by omega))
    rw [e3, Option.bind_some, appOk_of (by simp; omega), ck_true]
    exact ⟨_, _, rfl, by simp; omega, h3.le (by omega)⟩
  · split
    · obtain ⟨u, s3, e3, u0, u1, _, h3⟩ := pick_is (m := m + 400) (h2.le (by omega)) (n := 2) (by omega)
      have u2 := u1 (by omega)
      rw [e3, Option.bind_some, wrap_i64 (n := 100 + u) (by omega) (by omega)]
      obtain ⟨y, hy, hyl⟩ := bent_loop s3 (n := 100 + u) (by omega) (by omega)
      simp only
      rw [hy]
      exact ⟨_, _, rfl, hyl, h3.le (by omega)⟩
    · split
      · split
        · rename_i hp
          have hp : 0 < (l.length : Int) := by simpa using hp
          obtain ⟨u, s3, e3, u0, u1, _, h3⟩ := pick_is (m := m + 400) (h2.le (by omega)) (n := (l.length : Int)) (by omega)
          have u2 := u1 (by omega)
          obtain ⟨e, s4, e4, h4⟩ := l06BentOne_is (m := m + 300) (h3.le (by omega))
          rw [e3, Option.bind_some, e4, Option.bind_some, ixOk_of u0 (by omega), ck_true]
          exact ⟨_, _, rfl, by rw [List.length_set]; omega, h4.le (by omega)⟩
        · exact ⟨_, _, rfl, by show l.length ≤ 1000; omega, h2.le (by omega)⟩
      · exact ⟨_, _, rfl, by show l.length ≤ 1000; omega, h2.le (by omega)⟩

end Go.Proofs.Ytibabbjpkjmdeaa
