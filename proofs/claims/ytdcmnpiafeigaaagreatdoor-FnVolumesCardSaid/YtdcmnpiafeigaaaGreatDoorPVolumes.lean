/- The plain law of FnVolumes. No condition. -/
import Derived.Test.YtdcmnpiafeigaaaGreatDoorHPB
import Derived.Test.YtdcmnpiafeigaaaGreatDoorHPC
import Derived.Test.YtdcmnpiafeigaaaGreatDoorHDec
namespace Go.Proofs.YtdcmnpiafeigaaaGreatDoor
open Go Go.RowKit
set_option linter.unusedSimpArgs false
set_option linter.unusedVariables false

/-! ### Draws -/

theorem l23New_is {m : Nat} {s : L00Src} (h : SrcN (m + 20) s) (n : List UInt8) : ∃ x s', spec_l23New s n = some (x, s') ∧ SrcN m s' := by
  unfold spec_l23New
  obtain ⟨a, s2, e2, _, _, _, h2⟩ := pick_is (m := m + 16) (h.le (by omega)) (n := 60) (by omega)
  obtain ⟨b, s3, e3, _, _, _, h3⟩ := pick_is (m := m + 14) h2 (n := 30) (by omega)
  obtain ⟨c, s4, e4, _, _, _, h4⟩ := pick_is (m := m + 12) h3 (n := 3) (by omega)
  obtain ⟨d, s5, e5, _, _, _, h5⟩ := pick_is (m := m + 10) h4 (n := 200) (by omega)
  obtain ⟨e, s6, e6, _, _, _, h6⟩ := pick_is (m := m + 8) h5 (n := 4) (by omega)
  rw [e2, Option.bind_some, e3, Option.bind_some, e4, Option.bind_some, e5, Option.bind_some, e6]
  exact ⟨_, _, rfl, h6.le (by omega)⟩

theorem l23Spoil_is {m : Nat} {s : L00Src} (h : SrcN (m + 20) s) (x : Volume) : ∃ y s', spec_l23Spoil s x = some (s', y) ∧ SrcN m s' := by
  unfold spec_l23Spoil
  obtain ⟨v, s1, e1, _, _, _, h1'⟩ := pick_is (m := m + 18) h (n := 5) (by omega)
  rw [e1, Option.bind_some]
  simp only
  split
  · obtain ⟨x, s2, e2, _, h2⟩ := text_is (m := m + 10) (h1'.le (by omega)) (l := [([] : List UInt8), ([65] : List UInt8), ([122, 122] : List UInt8)]) (by simp) (by simp)
    rw [e2]; exact ⟨_, _, rfl, h2.le (by omega)⟩
  · split
    · obtain ⟨x, s2, e2, _, h2⟩ := among_is (m := m + 10) (h1'.le (by omega)) (l := [(-1), 0, x.To, (IntKind.i64.wrap (x.To + 1))]) (by simp) (by simp)
      rw [e2]; exact ⟨_, _, rfl, h2.le (by omega)⟩
    · split
      · obtain ⟨x, s2, e2, _, h2⟩ := among_is (m := m + 10) (h1'.le (by omega)) (l := [(-1), 10000000, 10000001]) (by simp) (by simp)
        rw [e2]; exact ⟨_, _, rfl, h2.le (by omega)⟩
      · split
        · obtain ⟨x, s2, e2, _, h2⟩ := among_is (m := m + 10) (h1'.le (by omega)) (l := [0, 1, 1000000, 1000001, (-9223372036854775808)]) (by simp) (by simp)
          rw [e2]; exact ⟨_, _, rfl, h2.le (by omega)⟩
        · split
          · obtain ⟨x, s2, e2, _, h2⟩ := among_is (m := m + 10) (h1'.le (by omega)) (l := [(-1), 0, 5, 6]) (by simp) (by simp)
            rw [e2]; exact ⟨_, _, rfl, h2.le (by omega)⟩
          · exact ⟨_, _, rfl, h1'.le (by omega)⟩

theorem l23SpoilIx_is {m : Nat} {s : L00Src} (h : SrcN (m + 20) s) {l : List Volume} {i : Int} (h0 : 0 ≤ i) (h1 : i < l.length) : ∃ l' s', spec_l23Spoil_ix1 s l i = some (s', l') ∧ l'.length = l.length ∧ SrcN m s' := by
  unfold spec_l23Spoil_ix1
  obtain ⟨v, s1, e1, _, _, _, h1'⟩ := pick_is (m := m + 18) h (n := 5) (by omega)
  rw [ixOk_of h0 (by omega), ck_true, e1, Option.bind_some]
  have lens : ∀ x : Volume, ((l.set i.toNat x).length == l.length) = true := fun x => by simp
  simp only [lens, ck_true]
  split
  · obtain ⟨x, s2, e2, _, h2⟩ := text_is (m := m + 10) (h1'.le (by omega)) (l := [([] : List UInt8), ([65] : List UInt8), ([122, 122] : List UInt8)]) (by simp) (by simp)
    rw [e2]; exact ⟨_, _, rfl, by simp, h2.le (by omega)⟩
  · split
    · obtain ⟨x, s2, e2, _, h2⟩ := among_is (m := m + 10) (h1'.le (by omega)) (l := [(-1), 0, (l.getD i.toNat default).To, (IntKind.i64.wrap (((l.getD i.toNat default).To) + 1))]) (by simp) (by simp)
      rw [e2]; exact ⟨_, _, rfl, by simp, h2.le (by omega)⟩
    · split
      · obtain ⟨x, s2, e2, _, h2⟩ := among_is (m := m + 10) (h1'.le (by omega)) (l := [(-1), 10000000, 10000001]) (by simp) (by simp)
        rw [e2]; exact ⟨_, _, rfl, by simp, h2.le (by omega)⟩
      · split
        · obtain ⟨x, s2, e2, _, h2⟩ := among_is (m := m + 10) (h1'.le (by omega)) (l := [0, 1, 1000000, 1000001, (-9223372036854775808)]) (by simp) (by simp)
          rw [e2]; exact ⟨_, _, rfl, by simp, h2.le (by omega)⟩
        · split
          · obtain ⟨x, s2, e2, _, h2⟩ := among_is (m := m + 10) (h1'.le (by omega)) (l := [(-1), 0, 5, 6]) (by simp) (by simp)
            rw [e2]; exact ⟨_, _, rfl, by simp, h2.le (by omega)⟩
          · exact ⟨_, _, rfl, rfl, h1'.le (by omega)⟩

theorem bentV_loop {m : Nat} {s : L00Src} (ns : List (List UInt8)) (hn : ns.length = 7) (h : SrcN (m + 200) s) : ∃ l s', whileE (spec_l23Bent_l1 ns) (s, ([] : List Volume), 0) = some (s', l) ∧ l.length ≤ 7 ∧ SrcN m s' := by
  obtain ⟨y, hy, hq⟩ := while_post (step := spec_l23Bent_l1 ns) (fun x => ∃ k : Nat, x.2.2 = (k : Int) ∧ k ≤ 7 ∧ x.2.1.length ≤ k ∧ SrcN (m + 25 * (7 - k)) x.1) (fun y => y.2.length ≤ 7 ∧ SrcN m y.1) (fun x => 7 - x.2.2.toNat) (by
    rintro ⟨s, l, i⟩ ⟨k, rfl, hk, hl, hs⟩
    simp only at hl hs
    by_cases c : k < 7
    · have c' : (k : Int) < (ns.length : Int) := by omega
      obtain ⟨b, s1, e1, h1⟩ := one_is (m := m + 25 * (7 - (k + 1)) + 22) (hs.le (by omega)) (n := 3) (by omega)
      simp only [spec_l23Bent_l1, c', decide_true, if_true, e1, Option.bind_some, wrap_nat1 (show k < 9223372036854775807 by omega)]
      left
      cases b
      · simp only [Bool.not_false, if_true]
        obtain ⟨x, s2, e2, h2⟩ := l23New_is (m := m + 25 * (7 - (k + 1))) (h1.le (by omega)) (ns.getD k default)
        rw [ixOk_of (by omega) (by omega), ck_true, Int.toNat_natCast, e2, Option.bind_some, appOk_of (by simp; omega), ck_true]
        exact ⟨_, rfl, ⟨k + 1, rfl, by omega, by simp; omega, h2⟩, by simp only [Int.toNat_natCast]; omega⟩
      · simp only [Bool.not_true, Bool.false_eq_true, if_false]
        exact ⟨_, rfl, ⟨k + 1, rfl, by omega, by simp only; omega, h1.le (by omega)⟩, by simp only [Int.toNat_natCast]; omega⟩
    · right
      have c' : ¬ (k : Int) < (ns.length : Int) := by omega
      exact ⟨(s, l), by simp [spec_l23Bent_l1, c'], by simp only; omega, hs.le (by omega)⟩) (s := (s, ([] : List Volume), 0)) ⟨0, rfl, by omega, by simp, h.le (by omega)⟩
  exact ⟨y.2, y.1, hy, hq.1, hq.2⟩

theorem bentV_loop2 (s : L00Src) {n : Int} (h0 : 0 ≤ n) (h1 : n ≤ 60) : ∃ l, whileE (spec_l23Bent_l2 s) (([] : List Volume), n) = some l ∧ l.length ≤ 60 := by
  obtain ⟨y, hy, q⟩ := while_post (step := spec_l23Bent_l2 s) (fun x => 0 ≤ x.2 ∧ (x.1.length : Int) + x.2 ≤ 60) (fun y => y.length ≤ 60) (fun x => x.2.toNat) (by
    rintro ⟨l, k⟩ ⟨k0, k1⟩
    simp only at k0 k1
    by_cases c : 0 < k
    · left
      simp only [spec_l23Bent_l2, c, decide_true, if_true]
      rw [nz_of (by omega), ck_true, catOk_of (by simp), ck_true, appOk_of (by simp; omega), ck_true, wrap_i64 (n := k - 1) (by omega) (by omega)]
      exact ⟨_, rfl, ⟨by show 0 ≤ k - 1; omega, by show ((l ++ [_]).length : Int) + (k - 1) ≤ 60; simp; omega⟩, by show (k - 1).toNat < k.toNat; omega⟩
    · right
      exact ⟨l, by simp [spec_l23Bent_l2, c], by omega⟩) (s := (([] : List Volume), n)) ⟨h0, by simp; omega⟩
  exact ⟨y, hy, q⟩

theorem bentV_tail {m : Nat} {s : L00Src} (h : SrcN (m + 40) s) {l : List Volume} (hl : l.length ≤ 60) : ∃ l' s', (if (decide (0 < (l.length : Int))) then
      (spec_l00Src_one s 10).bind fun y_10 =>
      if ((decide (0 < (l.length : Int))) && y_10.1) then
        (spec_l00Src_pick y_10.2 (l.length : Int)).bind fun y_12 =>
        ck (ixOk y_12.1 l.length) <|
        (spec_l23Spoil_ix1 y_12.2 l y_12.1).bind fun y_14 =>
        some (y_14.2, y_14.1)
      else
        some (l, y_10.2)
    else
      some (l, s)) = some (l', s') ∧ l'.length ≤ 60 ∧ SrcN m s' := by
  split
  · rename_i hp
    have hp : 0 < (l.length : Int) := by simpa using hp
    obtain ⟨b, s1, e1, h1⟩ := one_is (m := m + 38) h (n := 10) (by omega)
    rw [e1, Option.bind_some]
    simp only
    split
    · obtain ⟨u, s2, e2, u0, u1, _, h2⟩ := pick_is (m := m + 36) h1 (n := (l.length : Int)) (by omega)
      have u2 := u1 (by omega)
      obtain ⟨l', s3, e3, hl3, h3⟩ := l23SpoilIx_is (m := m + 16) h2 (l := l) u0 u2
      rw [e2, Option.bind_some]
      simp only
      rw [ixOk_of u0 (by omega), ck_true, e3]
      exact ⟨_, _, rfl, by show l'.length ≤ 60; omega, h3.le (by omega)⟩
    · exact ⟨_, _, rfl, hl, h1.le (by omega)⟩
  · exact ⟨_, _, rfl, hl, h.le (by omega)⟩

theorem l23Bent_is {m : Nat} {s : L00Src} (h : SrcN (m + 1000) s) : ∃ l s', spec_l23Bent s = some (l, s') ∧ l.length ≤ 60 ∧ SrcN m s' := by
  unfold spec_l23Bent
  obtain ⟨l, s1, e1, hl, h1⟩ := bentV_loop (m := m + 800) ([([97] : List UInt8), ([98] : List UInt8), ([99, 45, 49] : List UInt8), ([100] : List UInt8), ([101] : List UInt8), ([102] : List UInt8), ([103] : List UInt8)]) rfl (h.le (by omega))
  obtain ⟨b, s2, e2, h2⟩ := one_is (m := m + 700) (h1.le (by omega)) (n := 20) (by omega)
  rw [e1, Option.bind_some]
  simp only
  rw [e2, Option.bind_some]
  simp only
  split
  · obtain ⟨u, s3, e3, u0, u1, _, h3⟩ := pick_is (m := m + 600) (h2.le (by omega)) (n := 2) (by omega)
    have u2 := u1 (by omega)
    rw [e3, Option.bind_some, wrap_i64 (n := 40 + u) (by omega) (by omega)]
    obtain ⟨q, e4, hq⟩ := bentV_loop2 s3 (n := 40 + u) (by omega) (by omega)
    simp only
    rw [e4, Option.bind_some]
    exact bentV_tail (h3.le (by omega)) hq
  · exact bentV_tail (h2.le (by omega)) (by omega)

theorem l23Name_is {m : Nat} {s : L00Src} (h : SrcN (m + 2) s) : ∃ v s', spec_l23Name s = some (v, s') ∧ SrcN m s' := by
  unfold spec_l23Name
  obtain ⟨x, s2, e2, _, h2⟩ := text_is (m := m) h (l := [([97] : List UInt8), ([98] : List UInt8), ([99, 45, 49] : List UInt8), ([100] : List UInt8), ([101] : List UInt8), ([102] : List UInt8), ([110, 101, 119] : List UInt8), ([] : List UInt8)]) (by simp) (by simp)
  rw [e2]; exact ⟨_, _, rfl, h2⟩

theorem DrawStore_is {c : List UInt8} (h : c.length ≤ 1099511627776) : ∃ l x, spec_DrawStoreVolume c = some (l, x) ∧ l.length ≤ 60 := by
  unfold spec_DrawStoreVolume
  obtain ⟨l, s1, e1, hl, h1⟩ := l23Bent_is (m := 10000) ((srcN_from h).le (by omega))
  obtain ⟨n, s2, e2, h2⟩ := l23Name_is (m := 9000) (h1.le (by omega))
  obtain ⟨x, s3, e3, h3⟩ := l23New_is (m := 8000) (h2.le (by omega)) n
  obtain ⟨b, s4, e4, h4⟩ := one_is (m := 7000) (h3.le (by omega)) (n := 8) (by omega)
  rw [From_is, Option.bind_some, e1, Option.bind_some, e2, Option.bind_some]
  simp only
  rw [e3, Option.bind_some, e4, Option.bind_some]
  simp only
  split
  · obtain ⟨y, s5, e5, _⟩ := l23Spoil_is (m := 6000) (h4.le (by omega)) x
    rw [e5]; exact ⟨_, _, rfl, hl⟩
  · exact ⟨_, _, rfl, hl⟩

theorem DrawCopy_is {c : List UInt8} (h : c.length ≤ 1099511627776) : ∃ l x, spec_DrawCopyVolume c = some (l, x) ∧ l.length ≤ 60 := by
  unfold spec_DrawCopyVolume
  obtain ⟨l, s1, e1, hl, h1⟩ := l23Bent_is (m := 10000) ((srcN_from h).le (by omega))
  rw [From_is, Option.bind_some, e1, Option.bind_some]
  simp only
  split
  · rename_i hp
    have hp : 0 < (l.length : Int) := by simpa using hp
    obtain ⟨b, s4, e4, h4⟩ := one_is (m := 7000) (h1.le (by omega)) (n := 8) (by omega)
    rw [e4, Option.bind_some]
    simp only
    split
    · rw [ixOk_of (by omega) (by omega), ck_true]
      exact ⟨_, _, rfl, by rw [List.length_set]; exact hl⟩
    · obtain ⟨n, s2, e2, h2⟩ := l23Name_is (m := 6000) (h4.le (by omega))
      rw [e2]; exact ⟨_, _, rfl, hl⟩
  · obtain ⟨n, s2, e2, h2⟩ := l23Name_is (m := 6000) (h1.le (by omega))
    rw [e2]; exact ⟨_, _, rfl, hl⟩

theorem DrawAt_is {c : List UInt8} (h : c.length ≤ 1099511627776) : ∃ l t, spec_DrawVolumesAt c = some (l, t) ∧ l.length ≤ 60 := by
  unfold spec_DrawVolumesAt
  obtain ⟨l, s1, e1, hl, h1⟩ := l23Bent_is (m := 10000) ((srcN_from h).le (by omega))
  obtain ⟨b, s4, e4, h4⟩ := one_is (m := 7000) (h1.le (by omega)) (n := 10) (by omega)
  rw [From_is, Option.bind_some, e1, Option.bind_some, e4, Option.bind_some]
  simp only
  split
  · obtain ⟨x, s2, e2, _, h2⟩ := among_is (m := 6000) (h4.le (by omega)) (l := [(-1), 0, 10000000, 10000001]) (by simp) (by simp)
    rw [e2]; exact ⟨_, _, rfl, hl⟩
  · obtain ⟨x, s2, e2, _, _, _, h2⟩ := pick_is (m := 6000) (h4.le (by omega)) (n := 900) (by omega)
    rw [e2]; exact ⟨_, _, rfl, hl⟩

theorem DrawEnd_is {c : List UInt8} (h : c.length ≤ 1099511627776) : ∃ l, spec_DrawEndangeredVolumes c = some l ∧ spec_DrawArchiveSummary c = some l ∧ l.length ≤ 60 := by
  unfold spec_DrawEndangeredVolumes spec_DrawArchiveSummary
  obtain ⟨l, s1, e1, hl, h1⟩ := l23Bent_is (m := 10000) ((srcN_from h).le (by omega))
  rw [From_is, Option.bind_some, e1]
  exact ⟨_, rfl, rfl, hl⟩

theorem DrawOf_is {c : List UInt8} (h : c.length ≤ 1099511627776) : ∃ n es, spec_DrawVolumeOf c = some (n, es) ∧ es.length ≤ 1000 := by
  unfold spec_DrawVolumeOf
  obtain ⟨n, s2, e2, h2⟩ := l23Name_is (m := 90000) ((srcN_from h).le (by omega))
  obtain ⟨es, s3, e3, he, _⟩ := l06Bent_is (m := 9000) (h2.le (by omega))
  rw [From_is, Option.bind_some, e2, Option.bind_some, e3]
  exact ⟨_, _, rfl, he⟩

theorem DrawSameV_is {c : List UInt8} (h : c.length ≤ 1099511627776) : ∃ a b, spec_DrawSameVolumes c = some (a, b) ∧ a.length ≤ 100 ∧ b.length ≤ 100 := by
  unfold spec_DrawSameVolumes
  obtain ⟨l, s1, e1, hl, h1⟩ := l23Bent_is (m := 10000) ((srcN_from h).le (by omega))
  rw [From_is, Option.bind_some, e1, Option.bind_some]
  simp only [List.nil_append]
  rw [appOk_of (by simp; omega), ck_true]
  have tail : ∀ {m : Nat} {s : L00Src} (b : List Volume), SrcN (m + 2) s → b.length ≤ 60 → ∃ a' b', ((spec_l00Src_one s 5).bind fun y_12 =>
      if y_12.1 then
        ck (appOk (b.length + ([(Volume.mk [] 0 0 0 0)] : List Volume).length) 48) <|
        some (l, (b ++ ([(Volume.mk [] 0 0 0 0)] : List Volume)))
      else
        some (l, b)) = some (a', b') ∧ a'.length ≤ 100 ∧ b'.length ≤ 100 := by
    intro m s b hs hb
    obtain ⟨v, s', e, _⟩ := one_is (m := m) hs (n := 5) (by omega)
    rw [e, Option.bind_some]
    simp only
    split
    · rw [appOk_of (by simp; omega), ck_true]
      exact ⟨_, _, rfl, by omega, by simp; omega⟩
    · exact ⟨_, _, rfl, by omega, by omega⟩
  split
  · rename_i hp
    have hp : 0 < (l.length : Int) := by simpa using hp
    obtain ⟨b, s2, e2, h2⟩ := one_is (m := 9000) (h1.le (by omega)) (n := 2) (by omega)
    rw [e2, Option.bind_some]
    simp only
    split
    · rw [ixOk_of (by omega) (by omega), ck_true]
      obtain ⟨v, s3, e3, _, _, _, h3⟩ := pick_is (m := 8000) (h2.le (by omega)) (n := 2) (by omega)
      rw [e3, Option.bind_some]
      exact tail (m := 7000) _ (h3.le (by omega)) (by rw [List.length_set]; omega)
    · exact tail (m := 7000) l (h2.le (by omega)) hl
  · exact tail (m := 7000) l (h1.le (by omega)) hl

/-! ### Equal lists -/

theorem eqV (x y : Volume) : ((x.Name == y.Name) && ((x.From == y.From) && ((x.To == y.To) && ((x.Count == y.Count) && (x.Copies == y.Copies))))) = (x == y) := by
  rw [Bool.eq_iff_iff]
  cases x; cases y
  simp [Volume.mk.injEq]

theorem SameV_is {a b : List Volume} (h : a.length ≤ 1099511627776) : spec_SameVolumes a b = some (decide (a = b)) := by
  unfold spec_SameVolumes
  by_cases hl : a.length = b.length
  · have e : (!((a.length : Int) == (b.length : Int))) = false := by simp [hl]
    rw [e]
    simp only [Bool.false_eq_true, if_false]
    rw [while_all (step := spec_SameVolumes_l1 a b) (fun i => a.getD i default == b.getD i default) a.length (decide (a = b)) (yes := .inl ()) (no := .inr false) (by
      rw [decide_eq_true_eq]; exact (getD_eq_iff hl).symm) (fun i hi => by
      simp only [spec_SameVolumes_l1, Int.ofNat_lt, hi, decide_true, if_true, ixOk_nat, ck_true, Int.toNat_natCast, wrap_nat1 (show i < 9223372036854775807 by omega), show i < b.length by omega, eqV]
      cases (a.getD i default == b.getD i default) <;> rfl) (by simp [spec_SameVolumes_l1])]
    by_cases hab : a = b
    · simp [hab]
    · simp [hab]
  · have e : (!((a.length : Int) == (b.length : Int))) = true := by
      simp; omega
    rw [e]
    have : a ≠ b := fun c => hl (by rw [c])
    simp [this]

theorem SameV_impl (a b : List Volume) : impl_SameVolumes a b = (spec_SameVolumes a b).bind fun y => some y := by
  unfold impl_SameVolumes slices_Equal_impl_Volume_impl_Volume spec_SameVolumes
  have e : slices_Equal_impl_Volume_impl_Volume_l1 a b (a.length : Int) = spec_SameVolumes_l1 a b := id rfl
  rw [e]

theorem f6ints_refl {l : List Int} (hl : l.length ≤ 1000000) : laws_f6ints l l = some true := by
  unfold laws_f6ints
  rw [if_neg (by simp), while_all (step := laws_f6ints_l1 l l) (fun _ => true) l.length true (yes := .inl ()) (no := .inr false) (by simp) (fun i hi => by
    simp only [laws_f6ints_l1, Int.ofNat_lt, hi, decide_true, if_true, ixOk_nat, ck_true, Int.toNat_natCast, wrap_nat1 (show i < 9223372036854775807 by omega), beq_self_eq_true, Bool.not_true, Bool.false_eq_true, if_false]) (by simp [laws_f6ints_l1])]
  rfl

/-! ### The volume of estimates, the summary -/

theorem VolumeOf_same {es : List Estimate} (he : es.length ≤ 1000) (n : List UInt8) : ∃ v c, impl_VolumeOf n es = some (v, c) ∧ spec_VolumeOf n es = some (v, c) := by
  unfold impl_VolumeOf spec_VolumeOf impl_count_impl_Estimate
  rw [ValidEstimates_is (by omega), l06Ok_is (by omega), impl_IsName_is, spec_IsName_is, Option.bind_some, Option.bind_some, Option.bind_some, Option.bind_some]
  cases (goodE es && decide (es.length ≤ 100))
  · exact ⟨_, _, rfl, rfl⟩
  · cases nameB n
    · exact ⟨_, _, rfl, rfl⟩
    · simp only [Bool.not_true, Bool.false_eq_true, if_false, Option.bind_some]
      by_cases h0 : es.length = 0
      · rw [if_pos (by simp [h0])]
        exact ⟨_, _, rfl, rfl⟩
      · rw [if_neg (by simpa using h0), wrap_i64 (by omega) (by omega), ixOk_of (by omega) (by omega), ck_true, ixOk_of (by omega) (by omega), ck_true]
        exact ⟨_, _, rfl, rfl⟩

def sumV (f : Nat → Int) : Nat → Int
  | 0 => 0
  | n + 1 => sumV f n + f n

theorem sumV_in {f : Nat → Int} {m : Int} (hm : 0 ≤ m) {n : Nat} : ∀ k : Nat, k ≤ n → (∀ i, i < n → 0 ≤ f i ∧ f i ≤ m) → 0 ≤ sumV f k ∧ sumV f k ≤ m * k
  | 0, _, _ => by simp [sumV]
  | k + 1, h, hf => by
    obtain ⟨a, b⟩ := sumV_in hm k (by omega) hf
    obtain ⟨c, d⟩ := hf k (by omega)
    simp only [sumV]
    refine ⟨by omega, ?_⟩
    have : m * ((k + 1 : Nat) : Int) = m * k + m := by rw [Int.natCast_add, Int.mul_add]; simp
    rw [this]; omega

theorem Summary_same {l : List Volume} (hl : l.length ≤ 1000) : ∃ t, impl_ArchiveSummary l = some t ∧ spec_ArchiveSummary l = some t := by
  unfold impl_ArchiveSummary spec_ArchiveSummary impl_count_impl_Volume
  rw [ValidVolumes_is (by omega), l23Ok_is (by omega), Option.bind_some, Option.bind_some]
  cases hv : validV l
  · exact ⟨_, rfl, rfl⟩
  · obtain ⟨hg, h40⟩ := validV_good hv
    have hin := fun i (hi : i < l.length) => oneV_in (goodV_iff.1 hg i hi).1
    let f1 : Nat → Int := fun i => (l.getD i default).Count
    let f2 : Nat → Int := fun i => (l.getD i default).Copies
    let f3 : Nat → Int := fun i => if (l.getD i default).Copies = 0 then 1 else 0
    have b1 := fun k (hk : k ≤ l.length) => sumV_in (f := f1) (m := 1000000) (by omega) (n := l.length) k hk (fun i hi => by have := (hin i hi).2.1; exact ⟨by show 0 ≤ (l.getD i default).Count; omega, this.2⟩)
    have b2 := fun k (hk : k ≤ l.length) => sumV_in (f := f2) (m := 5) (by omega) (n := l.length) k hk (fun i hi => (hin i hi).2.2)
    have b3 := fun k (hk : k ≤ l.length) => sumV_in (f := f3) (m := 1) (by omega) (n := l.length) k hk (fun i hi => by show 0 ≤ (if _ then (1 : Int) else 0) ∧ (if _ then (1 : Int) else 0) ≤ 1; split <;> omega)
    have run : ∀ {step : Int × Int × Int × Int → Option ((Int × Int × Int × Int) ⊕ (Int × Int × Int))},
        (∀ a b c : Int, ∀ i : Nat, i < l.length → step (a, b, c, (i : Int)) = if (((l.getD i default).Copies) == 0) then some (.inl (IntKind.i64.wrap (a + (l.getD i default).Count), IntKind.i64.wrap (b + (l.getD i default).Copies), IntKind.i64.wrap (c + 1), ((i + 1 : Nat) : Int))) else some (.inl (IntKind.i64.wrap (a + (l.getD i default).Count), IntKind.i64.wrap (b + (l.getD i default).Copies), c, ((i + 1 : Nat) : Int)))) →
        (∀ a b c : Int, step (a, b, c, (l.length : Int)) = some (.inr (a, b, c))) → whileE step (0, 0, 0, 0) = some (sumV f1 l.length, sumV f2 l.length, sumV f3 l.length) := fun {step} p1 p2 => by
      exact whileE_run (step := step) (fun i => (sumV f1 i, sumV f2 i, sumV f3 i, (i : Int))) l.length (fun i hi => by
        have c1 := b1 i (by omega)
        have c2 := b2 i (by omega)
        have c3 := b3 i (by omega)
        obtain ⟨_, d1, d2⟩ := hin i hi
        rw [p1 _ _ _ i hi]
        have w1 : IntKind.i64.wrap (sumV f1 i + (l.getD i default).Count) = sumV f1 (i + 1) := wrap_i64 (by omega) (by omega)
        have w2 : IntKind.i64.wrap (sumV f2 i + (l.getD i default).Copies) = sumV f2 (i + 1) := wrap_i64 (by omega) (by omega)
        rw [w1, w2]
        by_cases c : (l.getD i default).Copies = 0
        · have w3 : IntKind.i64.wrap (sumV f3 i + 1) = sumV f3 (i + 1) := by
            rw [wrap_i64 (by omega) (by omega)]
            show _ = sumV f3 i + (if (l.getD i default).Copies = 0 then (1 : Int) else 0)
            rw [if_pos c]
          rw [if_pos (by simpa using c), w3]
        · have w3 : sumV f3 i = sumV f3 (i + 1) := by
            show _ = sumV f3 i + (if (l.getD i default).Copies = 0 then (1 : Int) else 0)
            rw [if_neg c]; omega
          rw [if_neg (by simpa using c), w3]) (p2 _ _ _)
    have c1 := b1 l.length (Nat.le_refl _)
    have c2 := b2 l.length (Nat.le_refl _)
    have c3 := b3 l.length (Nat.le_refl _)
    have r0 : R64 (l.length : Int) := ⟨by omega, by omega⟩
    have r1 : R64 (sumV f1 l.length) := ⟨by omega, by omega⟩
    have r2 : R64 (sumV f2 l.length) := ⟨by omega, by omega⟩
    have r3 : R64 (sumV f3 l.length) := ⟨by omega, by omega⟩
    have l0 := itoa_len r0
    have l1 := itoa_len r1
    have l2 := itoa_len r2
    have l3 := itoa_len r3
    simp only [Bool.not_true, Bool.false_eq_true, if_false]
    rw [run (step := impl_ArchiveSummary_l1 l l (l.length : Int)) (fun a b c i hi => by
        simp only [impl_ArchiveSummary_l1, Int.ofNat_lt, hi, decide_true, if_true, ixOk_nat, ck_true, Int.toNat_natCast, wrap_nat1 (show i < 9223372036854775807 by omega)]) (fun a b c => by simp [impl_ArchiveSummary_l1]),
      run (step := spec_ArchiveSummary_l1 l) (fun a b c i hi => by
        simp only [spec_ArchiveSummary_l1, Int.ofNat_lt, hi, decide_true, if_true, ixOk_nat, ck_true, Int.toNat_natCast, wrap_nat1 (show i < 9223372036854775807 by omega)]) (fun a b c => by simp [spec_ArchiveSummary_l1])]
    simp only [Option.bind_some, Decimal_is r0, Decimal_is r1, Decimal_is r2, Decimal_is r3, l01Dec_is r0, l01Dec_is r1, l01Dec_is r2, l01Dec_is r3]
    have ok : ∀ {a b : List UInt8}, a.length + b.length ≤ 1000 → catOk a.length b.length = true := fun h => catOk_of (by omega)
    repeat rw [ok (by simp; omega), ck_true]
    exact ⟨_, rfl, rfl⟩

/-! ### The stored volume is there -/

theorem there_loop {y : List Volume} {x : Volume} {t : Int} (hl : y.length ≤ 1000) {k : Nat} (hk : k < y.length) (hx : y.getD k default = x) (ht : x.From ≤ t ∧ t ≤ x.To) {step : Int → Option (Int ⊕ (Unit ⊕ Bool))}
    (hs : step = laws_FnVolumes_l1 x y (atV y t)) : whileE step 0 = some (.inr true) := by
  subst hs
  have hmem : ∀ i, i < (atV y t).length → 0 ≤ (atV y t).getD i default ∧ (atV y t).getD i default < y.length := by
    intro i hi
    have := getD_mem hi default
    generalize (atV y t).getD i default = q at this
    unfold atV keptTo at this
    obtain ⟨j, hj, rfl⟩ := List.mem_map.1 this
    have := (List.mem_filter.1 hj).1
    simp at this
    omega
  have hlen : (atV y t).length ≤ 1000 := by
    have := keptTo_len (fun i => decide ((y.getD i default).From ≤ t) && decide (t ≤ (y.getD i default).To)) (fun i => (i : Int)) y.length
    unfold atV
    omega
  have hin : (k : Int) ∈ atV y t := by
    unfold atV keptTo
    exact List.mem_map.2 ⟨k, List.mem_filter.2 ⟨by simpa using hk, by rw [hx]; simp [ht.1, ht.2]⟩, rfl⟩
  rw [while_find (step := laws_FnVolumes_l1 x y (atV y t)) (fun i => y.getD ((atV y t).getD i default).toNat default == x) (fun _ => true) (atV y t).length (fun i hi => by
    obtain ⟨m0, m1⟩ := hmem i hi
    simp only [laws_FnVolumes_l1, Int.ofNat_lt, hi, decide_true, if_true, ixOk_nat, ck_true, Int.toNat_natCast, wrap_nat1 (show i < 9223372036854775807 by omega), eqV]
    rw [ixOk_of m0 (by omega), Bool.or_true, ck_true]
    simp only [m0, m1, decide_true, Bool.true_and]
    split <;> rfl) (by simp [laws_FnVolumes_l1])]
  obtain ⟨j, hj, e⟩ := List.getElem_of_mem hin
  cases hc : (List.range (atV y t).length).find? (fun i => y.getD ((atV y t).getD i default).toNat default == x) with
  | some j => rfl
  | none =>
    rw [List.find?_eq_none] at hc
    have := hc j (by simpa using hj)
    rw [getD_lt hj, e, Int.toNat_natCast, hx] at this
    simp at this

theorem law_Volumes {code : List UInt8} (w : code.length ≤ maxLen) : laws_FnVolumes code = some true := by
  unfold laws_FnVolumes laws_f6big
  rw [Option.bind_some]
  by_cases hb : (4096 : Int) < (code.length : Int)
  · simp [hb]
  have hc : code.length ≤ 1099511627776 := by omega
  rw [if_neg (by simpa using hb)]
  obtain ⟨l, x, e1, hl⟩ := DrawStore_is hc
  obtain ⟨y, c1, hy, e2, e3, k1⟩ := Store_same (l := l) (by omega) x
  obtain ⟨a, n, e4, ha⟩ := DrawCopy_is hc
  obtain ⟨e5, e6⟩ := Change_same (l := a) (by omega) n (by_ := 1) (by omega) (by omega)
  obtain ⟨e7, e8⟩ := Change_same (l := a) (by omega) n (by_ := -1) (by omega) (by omega)
  have e5' : impl_CopyVolume a n = some (codeC a n 1) := by unfold impl_CopyVolume; rw [e5]; rfl
  have e6' : spec_CopyVolume a n = some (codeC a n 1) := by unfold spec_CopyVolume; rw [e6]; rfl
  have e7' : impl_LoseCopy a n = some (codeC a n (-1)) := by unfold impl_LoseCopy; rw [e7]; rfl
  have e8' : spec_LoseCopy a n = some (codeC a n (-1)) := by unfold spec_LoseCopy; rw [e8]; rfl
  obtain ⟨b, t, e9, hb9⟩ := DrawAt_is hc
  obtain ⟨e10, e11⟩ := VolumesAt_same (l := b) (by omega) t
  obtain ⟨d, e12, e13, hd⟩ := DrawEnd_is hc
  obtain ⟨o, c7, ho, e14, e15⟩ := Endangered_same (l := d) (by omega)
  obtain ⟨nn, es, e16, hes⟩ := DrawOf_is hc
  obtain ⟨v, c9, e17, e18⟩ := VolumeOf_same hes nn
  obtain ⟨a1, a2, e19, h1, h2⟩ := DrawSameV_is hc
  have e20 := SameV_is (a := a1) (b := a2) (by omega)
  have e21 : impl_SameVolumes a1 a2 = some (decide (a1 = a2)) := by rw [SameV_impl, e20]; rfl
  obtain ⟨s, e22, e23⟩ := Summary_same (l := d) (by omega)
  have e24 := ValidVolumes_is (l := l) (by omega)
  have e25 : spec_ValidVolumes l = some (validV l) := by unfold spec_ValidVolumes; rw [l23Ok_is (by omega)]; rfl
  have e26 : spec_SameVolumes y y = some true := by rw [SameV_is (by omega)]; simp
  have q1 : spec_SameVolumes (codeC a n 1).1 (codeC a n 1).1 = some true := by
    have := codeC_len (l := a) (by omega) n 1
    rw [SameV_is (by omega)]; simp
  have q2 : spec_SameVolumes (codeC a n (-1)).1 (codeC a n (-1)).1 = some true := by
    have := codeC_len (l := a) (by omega) n (-1)
    rw [SameV_is (by omega)]; simp
  have e27 : spec_SameVolumes a a = some true := by rw [SameV_is (by omega)]; simp
  have e28 := f6ints_refl ho
  obtain ⟨oa, ca, hoa⟩ : ∃ oa ca, (if validV b = true then (if timeV t = true then (atV b t, (0 : Int)) else ([], 2)) else ([], 1)) = (oa, ca) := ⟨_, _, rfl⟩
  rw [hoa] at e10 e11
  have hoal : oa.length ≤ 1000000 := by
    have hk := keptTo_len (fun i => decide ((b.getD i default).From ≤ t) && decide (t ≤ (b.getD i default).To)) (fun i => (i : Int)) b.length
    split at hoa
    · split at hoa
      · cases hoa; unfold atV; omega
      · cases hoa; simp
    · cases hoa; simp
  have e29 := f6ints_refl hoal
  simp only [e1, e2, e3, e4, e5', e6', e7', e8', e9, e10, e11, e12, e13, e14, e15, e16, e17, e18, e19, e20, e21, e22, e23, e24, e25, e26, q1, q2, e28, e29, Option.bind_some, Option.isSome_some, Option.getD_some, Bool.or_true, ck_true, beq_self_eq_true, Bool.not_true, Bool.and_self, Bool.or_self, Bool.false_or, Bool.or_false, Bool.false_eq_true, if_false]
  -- the stored volume
  have fin : (if (!(c1 == 0)) = true then some true else (impl_VolumesAt y x.From).bind fun y_39 =>
            if (!(y_39.2 == 0)) = true then
              some false
            else
              (whileE (laws_FnVolumes_l1 x y y_39.1) 0).bind fun y_45 =>
              match y_45 with
              | .inl y_45a =>
                some false
              | .inr y_45b =>
                some y_45b) = some true := by
    by_cases h : c1 = 0
    · obtain ⟨v1, v2, k, hk, hx⟩ := k1 h
      obtain ⟨vg, v40⟩ := validV_good v1
      obtain ⟨⟨f0, f1, f2⟩, _⟩ := oneV_in v2
      have ht : timeV x.From = true := by unfold timeV; simp; omega
      rw [if_neg (by simp [h]), (VolumesAt_same (l := y) hy x.From).1, Option.bind_some, if_pos v1, if_pos ht]
      simp only [beq_self_eq_true, Bool.not_true, Bool.false_eq_true, if_false]
      rw [there_loop (by omega) hk hx ⟨by omega, f1⟩ rfl]; rfl
    · rw [if_pos (by simpa using h)]
  by_cases h : (codeC a n 1).2 = 0
  · have hbk := back_again h
    have hlen := codeC_len (l := a) (by omega) n 1
    have e30 : impl_LoseCopy (codeC a n 1).1 n = some (a, 0) := by
      unfold impl_LoseCopy
      rw [(Change_same hlen n (by_ := -1) (by omega) (by omega)).1, hbk]; rfl
    rw [if_pos (by simpa using h), e30, Option.bind_some]
    simp only [e27, Option.isSome_some, Option.getD_some, Bool.or_true, ck_true, beq_self_eq_true, Bool.not_true, Bool.or_self, Bool.false_eq_true, if_false]
    exact fin
  · rw [if_neg (by simpa using h)]
    exact fin

end Go.Proofs.YtdcmnpiafeigaaaGreatDoor
