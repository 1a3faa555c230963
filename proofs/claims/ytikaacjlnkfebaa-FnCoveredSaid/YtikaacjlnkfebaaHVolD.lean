/- What typed forms say: draws of volumes. No condition. -/
import Derived.Test.YtikaacjlnkfebaaHVolB
import Derived.Test.YtikaacjlnkfebaaHDrawA
import Derived.Test.YtikaacjlnkfebaaHDrawO
import Derived.Test.YtikaacjlnkfebaaHDrawT
namespace Go.Proofs.Ytikaacjlnkfebaa
open Go Go.RowKit
set_option linter.unusedSimpArgs false
set_option linter.unusedVariables false

theorem l23New_is {m : Nat} {s : L00Src} (h : SrcN (m + 20) s) (n : List UInt8) : ∃ x s', spec_l23New s n = some (x, s') ∧ SrcN m s' := by
  unfold spec_l23New
  obtain ⟨a, s2, e2, _, _, _, h2⟩ := pick_is (m := m + 16) (h.le (by omega)) (n := 60) (by omega)
  obtain ⟨b, s3, e3, _, _, _, h3⟩ := pick_is (m := m + 14) h2 (n := 30) (by omega)
  obtain ⟨c, s4, e4, _, _, _, h4⟩ := pick_is (m := m + 12) h3 (n := 3) (by omega)
  obtain ⟨d, s5, e5, _, _, _, h5⟩ := pick_is (m := m + 10) h4 (n := 200) (by omega)
  obtain ⟨e, s6, e6, _, _, _, h6⟩ := pick_is (m := m + 8) h5 (n := 4) (by omega)
  rw [e2, Option.bind_some, e3, Option.bind_some, e4, Option.bind_some, e5, Option.bind_some, e6]
  exact ⟨_, _, rfl, h6.le (by omega)⟩

theorem l23SpoilIx_is {m : Nat} {s : L00Src} (h : SrcN (m + 20) s) {l : List Volume} {i : Int} (h0 : 0 ≤ i) (h1 : i < l.length) : ∃ l' s', spec_l23Spoil_ix1 s l i = some (s', l') ∧ l'.length = l.length ∧ SrcN m s' := by
  unfold spec_l23Spoil_ix1
  obtain ⟨v, s1, e1, _, _, _, h1'⟩ := pick_is (m := m + 18) h (n := 5) (by omega)
  rw [ixOk_of h0 (by omega), ck_true, e1, Option.bind_some]
  have lens : ∀ x : Volume, ((l.set i.toNat x).length == l.length) = true := fun x => by simp
  simp only [lens, ck_true]
  split
  · obtain ⟨x, s2, e2, _, h2⟩ := text_is (m := m + 10) (h1'.le (by omega)) (l := [([] : List UInt8), ([65] : List UInt8), ([122, 122] : List UInt8)]) (by simp) (by simp)
    rw [e2]; exact ⟨_, _, rfl, by simp, h2.le (by omega)⟩
  · split
    · obtain ⟨x, s2, e2, _, h2⟩ := among_is (m := m + 10) (h1'.le (by omega)) (l := [(-1), 0, (l.getD i.toNat default).To, (IntKind.i64.wrap (((l.getD i.toNat default).To) + 1))]) (by simp) (by simp)
      rw [e2]; exact ⟨_, _, rfl, by simp, h2.le (by omega)⟩
    · split
      · obtain ⟨x, s2, e2, _, h2⟩ := among_is (m := m + 10) (h1'.le (by omega)) (l := [(-1), 10000000, 10000001]) (by simp) (by simp)
        rw [e2]; exact ⟨_, _, rfl, by simp, h2.le (by omega)⟩
      · split
        · obtain ⟨x, s2, e2, _, h2⟩ := among_is (m := m + 10) (h1'.le (by omega)) (l := [0, 1, 1000000, 1000001, (-9223372036854775808)]) (by simp) (by simp)
          rw [e2]; exact ⟨_, _, rfl, by simp, h2.le (by omega)⟩
        · split
          · obtain ⟨x, s2, e2, _, h2⟩ := among_is (m := m + 10) (h1'.le (by omega)) (l := [(-1), 0, 5, 6]) (by simp) (by simp)
            rw [e2]; exact ⟨_, _, rfl, by simp, h2.le (by omega)⟩
          · exact ⟨_, _, rfl, rfl, h1'.le (by omega)⟩

theorem bentV_loop {m : Nat} {s : L00Src} (ns : List (List UInt8)) (hn : ns.length = 7) (h : SrcN (m + 200) s) : ∃ l s', whileE (spec_l23Bent_l1 ns) (s, ([] : List Volume), 0) = some (s', l) ∧ l.length ≤ 7 ∧ SrcN m s' := by
  obtain ⟨y, hy, hq⟩ := while_post (step := spec_l23Bent_l1 ns) (fun x => ∃ k : Nat, x.2.2 = (k : Int) ∧ k ≤ 7 ∧ x.2.1.length ≤ k ∧ SrcN (m + 25 * (7 - k)) x.1) (fun y => y.2.length ≤ 7 ∧ SrcN m y.1) (fun x => 7 - x.2.2.toNat) (by
    rintro ⟨s, l, i⟩ ⟨k, rfl, hk, hl, hs⟩
    simp only at hl hs
    by_cases c : k < 7
    · have c' : (k : Int) < (ns.length : Int) := by omega
      obtain ⟨b, s1, e1, h1⟩ := one_is (m := m + 25 * (7 - (k + 1)) + 22) (hs.le (by omega)) (n := 3) (by omega)
      simp only [spec_l23Bent_l1, c', decide_true, if_true, e1, Option.bind_some, wrap_nat1 (show k < 9223372036854775807 by omega)]
      left
      cases b
      · simp only [Bool.not_false, if_true]
        obtain ⟨x, s2, e2, h2⟩ := l23New_is (m := m + 25 * (7 - (k + 1))) (h1.le (by omega)) (ns.getD k default)
        rw [ixOk_of (by omega) (by omega), ck_true, Int.toNat_natCast, e2, Option.bind_some, appOk_of (by simp; omega), ck_true]
        exact ⟨_, rfl, ⟨k + 1, rfl, by omega, by simp; omega, h2⟩, by simp only [Int.toNat_natCast]; omega⟩
      · simp only [Bool.not_true, Bool.false_eq_true, if_false]
        exact ⟨_, rfl, ⟨k + 1, rfl, by omega, by simp only; omega, h1.le (by omega)⟩, by simp only [Int.toNat_natCast]; omega⟩
    · right
      have c' : ¬ (k : Int) < (ns.length : Int) := by omega
      exact ⟨(s, l), by simp [spec_l23Bent_l1, c'], by simp only; omega, hs.le (by omega)⟩) (s := (s, ([] : List Volume), 0)) ⟨0, rfl, by omega, by simp, h.le (by omega)⟩
  exact ⟨y.2, y.1, hy, hq.1, hq.2⟩

theorem bentV_loop2 (s : L00Src) {n : Int} (h0 : 0 ≤ n) (h1 : n ≤ 60) : ∃ l, whileE (spec_l23Bent_l2 s) (([] : List Volume), n) = some l ∧ l.length ≤ 60 := by
  obtain ⟨y, hy, q⟩ := while_post (step := spec_l23Bent_l2 s) (fun x => 0 ≤ x.2 ∧ (x.1.length : Int) + x.2 ≤ 60) (fun y => y.length ≤ 60) (fun x => x.2.toNat) (by
    rintro ⟨l, k⟩ ⟨k0, k1⟩
    simp only at k0 k1
    by_cases c : 0 < k
    · left
      simp only [spec_l23Bent_l2, c, decide_true, if_true]
      rw [nz_of (by omega), ck_true, catOk_of (by simp), ck_true, appOk_of (by simp; omega), ck_true, wrap_i64 (n := k - 1) (by omega) (by omega)]
      exact ⟨_, rfl, ⟨by show 0 ≤ k - 1; omega, by show ((l ++ [_]).length : Int) + (k - 1) ≤ 60; simp; omega⟩, by show (k - 1).toNat < k.toNat; omega⟩
    · right
      exact ⟨l, by simp [spec_l23Bent_l2, c], by omega⟩) (s := (([] : List Volume), n)) ⟨h0, by simp; omega⟩
  exact ⟨y, hy, q⟩

theorem bentV_tail {m : Nat} {s : L00Src} (h : SrcN (m + 40) s) {l : List Volume} (hl : l.length ≤ 60) : ∃ l' s', (if (decide (0 < (l.length : Int))) then
      (spec_l00Src_one s 10).bind fun y_10 =>
      if ((decide (0 < (l.length : Int))) && y_10.1) then
        (spec_l00Src_pick y_10.2 (l.length : Int)).bind fun y_12 =>
        ck (ixOk y_12.1 l.length) <|
        (spec_l23Spoil_ix1 y_12.2 l y_12.1).bind fun y_14 =>
        some (y_14.2, y_14.1)
      else
        some (l, y_10.2)
    else
      some (l, s)) = some (l', s') ∧ l'.length ≤ 60 ∧ SrcN m s' := by
  split
  · rename_i hp
    have hp : 0 < (l.length : Int) := by simpa using hp
    obtain ⟨b, s1, e1, h1⟩ := one_is (m := m + 38) h (n := 10) (by omega)
    rw [e1, Option.bind_some]
    simp only
    split
    · obtain ⟨u, s2, e2, u0, u1, _, h2⟩ := pick_is (m := m + 36) h1 (n := (l.length : Int)) (by omega)
      have u2 := u1 (by omega)
      obtain ⟨l', s3, e3, hl3, h3⟩ := l23SpoilIx_is (m := m + 16) h2 (l := l) u0 u2
      rw [e2, Option.bind_some]
      simp only
      rw [ixOk_of u0 (by omega), ck_true, e3]
      exact ⟨_, _, rfl, by show l'.length ≤ 60; omega, h3.le (by omega)⟩
    · exact ⟨_, _, rfl, hl, h1.le (by omega)⟩
  · exact ⟨_, _, rfl, hl, h.le (by omega)⟩

theorem l23Bent_is {m : Nat} {s : L00Src} (h : SrcN (m + 1000) s) : ∃ l s', spec_l23Bent s = some (l, s') ∧ l.length ≤ 60 ∧ SrcN m s' := by
  unfold spec_l23Bent
  obtain ⟨l, s1, e1, hl, h1⟩ := bentV_loop (m := m + 800) ([([97] : List UInt8), ([98] : List UInt8), ([99, 45, 49] : List UInt8), ([100] : List UInt8), ([101] : List UInt8), ([102] : List UInt8), ([103] : List UInt8)]) rfl (h.le (by omega))
  obtain ⟨b, s2, e2, h2⟩ := one_is (m := m + 700) (h1.le (by omega)) (n := 20) (by omega)
  rw [e1, Option.bind_some]
  simp only
  rw [e2, Option.bind_some]
  simp only
  split
  · obtain ⟨u, s3, e3, u0, u1, _, h3⟩ := pick_is (m := m + 600) (h2.le (by omega)) (n := 2) (by omega)
    have u2 := u1 (by omega)
    rw [e3, Option.bind_some, wrap_i64 (n := 40 + u) (by omega) (by omega)]
    obtain ⟨q, e4, hq⟩ := bentV_loop2 s3 (n := 40 + u) (by omega) (by omega)
    simp only
    rw [e4, Option.bind_some]
    exact bentV_tail (h3.le (by omega)) hq
  · exact bentV_tail (h2.le (by omega)) (by omega)

end Go.Proofs.Ytikaacjlnkfebaa
