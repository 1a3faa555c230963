/- The plain law of FnPacked. No condition. -/
import Derived.Test.YtpjpfdoaemoddaaGreatHPackC
import Derived.Test.YtpjpfdoaemoddaaGreatHPD
namespace Go.Proofs.YtpjpfdoaemoddaaGreat
open Go Go.RowKit
set_option linter.unusedSimpArgs false
set_option linter.unusedVariables false

/-! ### Draws -/

theorem Bytes_is {m : Nat} {s : L00Src} (h : SrcN (m + 26) s) : ∃ l s', spec_l25Bytes s = some (l, s') ∧ l.length ≤ 11 ∧ SrcN m s' := by
  obtain ⟨v, s1, e1, v0, v1, _, h1⟩ := pick_is (m := m + 24) h (n := 12) (by omega)
  have v2 := v1 (by omega)
  obtain ⟨y, hy, q⟩ := while_post (step := spec_l25Bytes_l1) (fun x => ∃ K : Nat, x.2.2 = (K : Int) ∧ SrcN (m + 2 * K) x.1 ∧ x.2.1.length + K ≤ 11) (fun y => y.2.length ≤ 11 ∧ SrcN m y.1) (fun x => x.2.2.toNat) (by
    rintro ⟨s, out, k⟩ ⟨K, rfl, hs, hl⟩
    simp only at hs hl
    by_cases hk : 0 < K
    · obtain ⟨w, s2, e2, _, _, _, h2⟩ := pick_is (m := m + 2 * (K - 1)) (s := s) (hs.le (by omega)) (n := 256) (by omega)
      have hk' : (0 : Int) < (K : Int) := by omega
      have w1 : IntKind.i64.wrap ((K : Int) - 1) = ((K - 1 : Nat) : Int) := by rw [wrap_i64 (by omega) (by omega)]; omega
      refine .inl ⟨(s2, out ++ [toU8 (IntKind.u8.wrap w)], ((K - 1 : Nat) : Int)), ?_, ⟨K - 1, rfl, h2, by simp; omega⟩, by show ((K - 1 : Nat) : Int).toNat < (K : Int).toNat; omega⟩
      simp only [spec_l25Bytes_l1, hk', decide_true, if_true, e2, Option.bind_some, w1]
      rw [appOk_of (by simp; omega), ck_true]
    · have : K = 0 := by omega
      subst this
      exact .inr ⟨(s, out), by simp [spec_l25Bytes_l1], by simpa using hl, by simpa using hs⟩) (s := (s1, ([] : List UInt8), v)) ⟨v.toNat, by show v = _; omega, h1.le (by omega), by simp; omega⟩
  exact ⟨y.2, y.1, by unfold spec_l25Bytes; rw [e1]; simp only [Option.bind_some, hy], q.1, q.2⟩

theorem l02Bent_is {m : Nat} {s : L00Src} (h : SrcN (m + 10) s) : ∃ v s', spec_l02Bent s = some (v, s') ∧ SrcN m s' := by
  unfold spec_l02Bent
  obtain ⟨b, s1, e1, h1⟩ := one_is (m := m + 8) h (n := 14) (by omega)
  rw [e1, Option.bind_some]
  cases b
  · simp only [Bool.false_eq_true, if_false]
    unfold spec_l02Draw
    obtain ⟨b2, s2, e2, h2⟩ := one_is (m := m + 6) h1 (n := 8) (by omega)
    rw [e2, Option.bind_some]
    cases b2
    · obtain ⟨v, s3, e3, _, _, _, h3⟩ := pick_is (m := m + 4) h2 (n := 60) (by omega)
      simp only [Bool.false_eq_true, if_false, e3, Option.bind_some]
      exact ⟨_, _, rfl, h3.le (by omega)⟩
    · obtain ⟨v, s3, e3, _, _, _, h3⟩ := pick_is (m := m + 4) h2 (n := 22001) (by omega)
      simp only [if_true, e3, Option.bind_some]
      exact ⟨_, _, rfl, h3.le (by omega)⟩
  · obtain ⟨v, s3, e3, _, h3⟩ := among_is (m := m + 6) h1 (l := [(-2001), (-2000), 20000, 20001, (-9223372036854775808), 9223372036854775807]) (by simp) (by simp)
    simp only [if_true, e3, Option.bind_some]
    exact ⟨_, _, rfl, h3.le (by omega)⟩

theorem l06BentOne_is {m : Nat} {s : L00Src} (h : SrcN (m + 40) s) : ∃ e s', spec_l06BentOne s = some (e, s') ∧ SrcN m s' := by
  unfold spec_l06BentOne
  obtain ⟨e, s1, e1, _, h1⟩ := l06New_is (m := m + 20) h
  obtain ⟨v, s2, e2, _, _, _, h2⟩ := pick_is (m := m + 18) h1 (n := 24) (by omega)
  rw [e1, Option.bind_some, e2, Option.bind_some]
  split
  · obtain ⟨x, s3, e3, _, h3⟩ := among_is (m := m + 10) (h2.le (by omega)) (l := [(-1), 0, 10000000, 10000001]) (by simp) (by simp)
    rw [e3]; exact ⟨_, _, rfl, h3.le (by omega)⟩
  · split
    · obtain ⟨x, s3, e3, _, h3⟩ := text_is (m := m + 10) (h2.le (by omega)) (l := [([] : List UInt8), ([77, 105, 114, 97] : List UInt8), ([97, 32, 98] : List UInt8)]) (by simp) (by simp)
      rw [e3]; exact ⟨_, _, rfl, h3.le (by omega)⟩
    · split
      · obtain ⟨x, s3, e3, _, h3⟩ := text_is (m := m + 10) (h2.le (by omega)) (l := [([] : List UInt8), ([65, 66] : List UInt8)]) (by simp) (by simp)
        rw [e3]; exact ⟨_, _, rfl, h3.le (by omega)⟩
      · split
        · obtain ⟨x, s3, e3, h3⟩ := l02Bent_is (m := m) (h2.le (by omega))
          rw [e3]; exact ⟨_, _, rfl, h3⟩
        · exact ⟨_, _, rfl, h2.le (by omega)⟩

theorem bent_loop (s : L00Src) {n : Int} (h0 : 0 ≤ n) (h1 : n ≤ 200) : ∃ l, whileE (spec_l06Bent_l1 s) (([] : List Estimate), n) = some l ∧ l.length ≤ 1000 := by
  obtain ⟨y, hy, q⟩ := while_post (step := spec_l06Bent_l1 s) (fun x => 0 ≤ x.2 ∧ (x.1.length : Int) + x.2 ≤ 200) (fun y => y.length ≤ 1000) (fun x => x.2.toNat) (by
    rintro ⟨l, k⟩ ⟨k0, k1⟩
    simp only at k0 k1
    by_cases c : 0 < k
    · left
      simp only [spec_l06Bent_l1, c, decide_true, if_true]
      rw [appOk_of (by simp; omega), ck_true, wrap_i64 (n := k - 1) (by omega) (by omega)]
      exact ⟨_, rfl, ⟨by show 0 ≤ k - 1; omega, by show ((l ++ [_]).length : Int) + (k - 1) ≤ 200; simp; omega⟩, by show (k - 1).toNat < k.toNat; omega⟩
    · right
      exact ⟨l, by simp [spec_l06Bent_l1, c], by omega⟩) (s := (([] : List Estimate), n)) ⟨h0, by simp; omega⟩
  exact ⟨y, hy, q⟩

theorem bent_loopC (s : L00Src) {n : Int} (h0 : 0 ≤ n) (h1 : n ≤ 200) : ∃ l, whileE (spec_l08Bent_l1 s) (([] : List Point), n) = some l ∧ l.length ≤ 1000 := by
  obtain ⟨y, hy, q⟩ := while_post (step := spec_l08Bent_l1 s) (fun x => 0 ≤ x.2 ∧ (x.1.length : Int) + x.2 ≤ 200) (fun y => y.length ≤ 1000) (fun x => x.2.toNat) (by
    rintro ⟨l, k⟩ ⟨k0, k1⟩
    simp only at k0 k1
    by_cases c : 0 < k
    · left
      simp only [spec_l08Bent_l1, c, decide_true, if_true]
      rw [appOk_of (by simp; omega), ck_true, wrap_i64 (n := k - 1) (by omega) (by omega)]
      exact ⟨_, rfl, ⟨by show 0 ≤ k - 1; omega, by show ((l ++ [_]).length : Int) + (k - 1) ≤ 200; simp; omega⟩, by show (k - 1).toNat < k.toNat; omega⟩
    · right
      exact ⟨l, by simp [spec_l08Bent_l1, c], by omega⟩) (s := (([] : List Point), n)) ⟨h0, by simp; omega⟩
  exact ⟨y, hy, q⟩

theorem DrawPackEstimates_is {c : List UInt8} (h : c.length ≤ 1099511627776) : ∃ l, spec_DrawPackEstimates c = some l ∧ l.length ≤ 1000 := by
  unfold spec_DrawPackEstimates spec_l06Bent
  rw [From_is, Option.bind_some]
  obtain ⟨l, s1, e1, _, hl, h1⟩ := l06Draw_is (m := 800000000000) ((srcN_from h).le (by omega)) (most := 10) (by omega)
  have e1' : spec_l06Draw ⟨c, 0, 0⟩ 10 = some (l, s1) := e1
  obtain ⟨v, s2, e2, _, _, _, h2⟩ := pick_is (m := 700000000000) (h1.le (by omega)) (n := 20) (by omega)
  rw [e1', Option.bind_some, e2, Option.bind_some]
  simp only
  split
  · obtain ⟨e, s3, e3, _⟩ := l06BentOne_is (m := 600000000000) (h2.le (by omega))
    rw [e3, Option.bind_some, appOk_of (by simp; omega), ck_true]
    exact ⟨_, rfl, by simp; omega⟩
  · split
    · obtain ⟨u, s3, e3, u0, u1, _, _⟩ := pick_is (m := 600000000000) (h2.le (by omega)) (n := 2) (by omega)
      have u2 := u1 (by omega)
      rw [e3, Option.bind_some, wrap_i64 (n := 100 + u) (by omega) (by omega)]
      obtain ⟨y, hy, hyl⟩ := bent_loop s3 (n := 100 + u) (by omega) (by omega)
      simp only
      rw [hy]
      exact ⟨_, rfl, hyl⟩
    · split
      · split
        · rename_i hp
          have hp : 0 < (l.length : Int) := by simpa using hp
          obtain ⟨u, s3, e3, u0, u1, _, h3⟩ := pick_is (m := 600000000000) (h2.le (by omega)) (n := (l.length : Int)) (by omega)
          have u2 := u1 (by omega)
          obtain ⟨e, s4, e4, _⟩ := l06BentOne_is (m := 500000000000) (h3.le (by omega))
          rw [e3, Option.bind_some, e4, Option.bind_some, ixOk_of u0 (by omega), ck_true]
          exact ⟨_, rfl, by rw [List.length_set]; omega⟩
        · exact ⟨_, rfl, by show l.length ≤ 1000; omega⟩
      · exact ⟨_, rfl, by show l.length ≤ 1000; omega⟩

theorem DrawPackCurve_is {c : List UInt8} (h : c.length ≤ 1099511627776) : ∃ l, spec_DrawPackCurve c = some l ∧ l.length ≤ 1000 := by
  unfold spec_DrawPackCurve spec_l08Bent
  rw [From_is, Option.bind_some]
  obtain ⟨l, s1, e1, _, hl, h1⟩ := l08Draw_is (m := 800000000000) ((srcN_from h).le (by omega)) (most := 12) (by omega)
  have e1' : spec_l08Draw ⟨c, 0, 0⟩ 12 = some (l, s1) := e1
  obtain ⟨v, s2, e2, _, _, _, h2⟩ := pick_is (m := 700000000000) (h1.le (by omega)) (n := 20) (by omega)
  rw [e1', Option.bind_some, e2, Option.bind_some]
  simp only
  split
  · obtain ⟨e, s3, e3, _⟩ := among_is (m := 600000000000) (h2.le (by omega)) (l := [(-1), 0, 10000000, 10000001]) (by simp) (by simp)
    rw [e3, Option.bind_some, appOk_of (by simp; omega), ck_true]
    exact ⟨_, rfl, by simp; omega⟩
  · split
    · split
      · rename_i hp
        have hp : 0 < (l.length : Int) := by simpa using hp
        obtain ⟨u, s3, e3, u0, u1, _, h3⟩ := pick_is (m := 600000000000) (h2.le (by omega)) (n := (l.length : Int)) (by omega)
        have u2 := u1 (by omega)
        obtain ⟨e, s4, e4, _⟩ := l02Bent_is (m := 500000000000) (h3.le (by omega))
        rw [e3, Option.bind_some, e4, Option.bind_some, ixOk_of u0 (by omega), ck_true]
        exact ⟨_, rfl, by rw [List.length_set]; omega⟩
      · exact ⟨_, rfl, by show l.length ≤ 1000; omega⟩
    · split
      · obtain ⟨u, s3, e3, u0, u1, _, _⟩ := pick_is (m := 600000000000) (h2.le (by omega)) (n := 2) (by omega)
        have u2 := u1 (by omega)
        rw [e3, Option.bind_some, wrap_i64 (n := 100 + u) (by omega) (by omega)]
        obtain ⟨y, hy, hyl⟩ := bent_loopC s3 (n := 100 + u) (by omega) (by omega)
        simp only
        rw [hy]
        exact ⟨_, rfl, hyl⟩
      · exact ⟨_, rfl, by show l.length ≤ 1000; omega⟩

theorem u64_nn (n : Int) : 0 ≤ IntKind.u64.wrap n := by
  unfold IntKind.wrap IntKind.bits; simp [IntKind.signed]; omega

theorem l25Spoil_is {m : Nat} {s : L00Src} (h : SrcN (m + 6) s) {b : List UInt8} (hb : b.length ≤ 100000) : ∃ l s', spec_l25Spoil s b = some (l, s') ∧ l.length ≤ 100010 := by
  unfold spec_l25Spoil
  rw [appOk_of (by simp; omega), ck_true]
  simp only [List.nil_append]
  split
  · exact ⟨_, _, rfl, by omega⟩
  · rename_i h3
    have h3 : ¬ (b.length : Int) < 3 := by simpa using h3
    obtain ⟨v, s1, e1, _, _, _, h1⟩ := pick_is (m := m + 4) h (n := 6) (by omega)
    have w2 : IntKind.i64.wrap ((b.length : Int) - 2) = (b.length : Int) - 2 := wrap_i64 (by omega) (by omega)
    have ht : (b.take ((b.length : Int) - 2).toNat).length = b.length - 2 := by rw [List.length_take]; omega
    rw [e1, Option.bind_some]
    simp only [w2]
    split
    · obtain ⟨u, s2, e2, u0, u1, _, h2⟩ := pick_is (m := m + 2) h1 (n := (b.length : Int)) (by omega)
      have u2 := u1 (by omega)
      obtain ⟨t, s3, e3, _⟩ := pick_is (m := m) h2 (n := 8) (by omega)
      rw [e2, Option.bind_some, ixOk_of u0 (by omega), ck_true, e3, Option.bind_some, shOk_of (u64_nn _), ck_true]
      exact ⟨_, _, rfl, by rw [List.length_set]; omega⟩
    · split
      · obtain ⟨u, s2, e2, u0, u1, _, h2⟩ := pick_is (m := m + 2) h1 (n := (b.length : Int)) (by omega)
        have u2 := u1 (by omega)
        rw [e2, Option.bind_some, cutOk_of (by omega) u0 (by omega), ck_true]
        exact ⟨_, _, rfl, by rw [List.length_take]; omega⟩
      · split
        · obtain ⟨u, s2, e2, _⟩ := pick_is (m := m + 2) h1 (n := 256) (by omega)
          rw [e2, Option.bind_some, appOk_of (by simp; omega), ck_true]
          exact ⟨_, _, rfl, by simp; omega⟩
        · split
          · rw [cutOk_of (by omega) (by omega) (by omega), ck_true]
            obtain ⟨u, s2, e2, u0, u1, _, h2⟩ := pick_is (m := m + 2) h1 (n := (b.length : Int) - 2) (by omega)
            have u2 := u1 (by omega)
            obtain ⟨t, s3, e3, _⟩ := pick_is (m := m) h2 (n := 8) (by omega)
            rw [e2, Option.bind_some, ixOk_of u0 (by rw [ht]; omega), ck_true, e3, Option.bind_some, shOk_of (u64_nn _), ck_true]
            obtain ⟨z, hz, e4, _⟩ := close_is (b := (b.take ((b.length : Int) - 2).toNat).set u.toNat (toU8 (IntKind.u8.wrap (BitVec.ofInt (IntKind.bits .u8) (((b.take ((b.length : Int) - 2).toNat).getD u.toNat default).toNat : Int) ^^^ BitVec.ofInt (IntKind.bits .u8) (IntKind.u8.wrap (1 * 2 ^ (min (IntKind.u64.wrap t).toNat 8)))).toNat))) (by rw [List.length_set, ht]; omega)
            simp only at e4 ⊢
            rw [e4]
            rw [List.length_set, ht] at hz
            exact ⟨_, _, rfl, by omega⟩
          · split
            · rw [cutOk_of (by omega) (by omega) (by omega), ck_true]
              obtain ⟨u, s2, e2, _⟩ := pick_is (m := m + 2) h1 (n := 256) (by omega)
              rw [e2, Option.bind_some, appOk_of (by rw [ht]; simp; omega), ck_true]
              obtain ⟨z, hz, e4, _⟩ := close_is (b := b.take ((b.length : Int) - 2).toNat ++ [toU8 (IntKind.u8.wrap u)]) (by rw [List.length_append, ht]; simp; omega)
              rw [e4]
              rw [List.length_append, ht] at hz
              exact ⟨_, _, rfl, by simp at hz; omega⟩
            · exact ⟨_, _, rfl, by omega⟩

theorem DrawUnpackEstimates_is {c : List UInt8} (h : c.length ≤ 1099511627776) : ∃ l, spec_DrawUnpackEstimates c = some l ∧ l.length ≤ 100010 := by
  unfold spec_DrawUnpackEstimates
  rw [From_is, Option.bind_some]
  obtain ⟨l, s1, e1, hg, hl, h1⟩ := l06Draw_is (m := 800000000000) ((srcN_from h).le (by omega)) (most := 6) (by omega)
  have e1' : spec_l06Draw ⟨c, 0, 0⟩ 6 = some (l, s1) := e1
  have hP := Pack_is (l := l) (by omega)
  rw [if_pos (by simp [hg]; omega)] at hP
  obtain ⟨p, hp, e2, _⟩ := hP
  obtain ⟨b, s3, e3, h3⟩ := one_is (m := 700000000000) (h1.le (by omega)) (n := 2) (by omega)
  rw [e1', Option.bind_some]
  simp only
  rw [e2, Option.bind_some, e3, Option.bind_some]
  cases b
  · exact ⟨p, rfl, by omega⟩
  · obtain ⟨z, s4, e4, hz⟩ := l25Spoil_is (m := 600000000000) (h3.le (by omega)) (b := p) (by omega)
    simp only [if_true]
    rw [e4]
    exact ⟨z, rfl, hz⟩

theorem DrawUnpackCurve_is {c : List UInt8} (h : c.length ≤ 1099511627776) : ∃ l, spec_DrawUnpackCurve c = some l ∧ l.length ≤ 100010 := by
  unfold spec_DrawUnpackCurve
  rw [From_is, Option.bind_some]
  obtain ⟨l, s1, e1, hg, hl, h1⟩ := l08Draw_is (m := 800000000000) ((srcN_from h).le (by omega)) (most := 8) (by omega)
  have e1' : spec_l08Draw ⟨c, 0, 0⟩ 8 = some (l, s1) := e1
  have hP := Curve_is (c := l) (by omega)
  rw [if_pos (by simp [hg]; omega)] at hP
  obtain ⟨p, hp, e2, _⟩ := hP
  obtain ⟨b, s3, e3, h3⟩ := one_is (m := 700000000000) (h1.le (by omega)) (n := 2) (by omega)
  rw [e1', Option.bind_some]
  simp only
  rw [e2, Option.bind_some, e3, Option.bind_some]
  cases b
  · exact ⟨p, rfl, by omega⟩
  · obtain ⟨z, s4, e4, hz⟩ := l25Spoil_is (m := 600000000000) (h3.le (by omega)) (b := p) (by omega)
    simp only [if_true]
    rw [e4]
    exact ⟨z, rfl, hz⟩

theorem DrawKindOfPacked_is {c : List UInt8} (h : c.length ≤ 1099511627776) : ∃ l, spec_DrawKindOfPacked c = some l ∧ l.length ≤ 100010 := by
  unfold spec_DrawKindOfPacked
  rw [From_is, Option.bind_some]
  obtain ⟨b, s1, e1, h1⟩ := one_is (m := 800000000000) ((srcN_from h).le (by omega)) (n := 4) (by omega)
  rw [e1, Option.bind_some]
  cases b
  · simp only [Bool.false_eq_true, if_false]
    obtain ⟨b2, s2, e2, h2⟩ := one_is (m := 700000000000) (h1.le (by omega)) (n := 24) (by omega)
    rw [e2, Option.bind_some]
    cases b2
    · simp only [Bool.false_eq_true, if_false]
      obtain ⟨b3, s3, e3, h3⟩ := one_is (m := 600000000000) (h2.le (by omega)) (n := 2) (by omega)
      rw [e3, Option.bind_some]
      cases b3
      · obtain ⟨z, ez, hz⟩ := DrawUnpackEstimates_is h
        simp only [Bool.false_eq_true, if_false, ez, Option.bind_some]
        exact ⟨z, rfl, hz⟩
      · obtain ⟨z, ez, hz⟩ := DrawUnpackCurve_is h
        simp only [if_true, ez, Option.bind_some]
        exact ⟨z, rfl, hz⟩
    · obtain ⟨u, s3, e3, u0, u1, _, _⟩ := pick_is (m := 600000000000) (h2.le (by omega)) (n := 2) (by omega)
      have u2 := u1 (by omega)
      simp only [if_true]
      rw [e3, Option.bind_some, wrap_i64 (n := 7998 + u) (by omega) (by omega), mkOk_of (by omega) (by omega) (by omega), ck_true, ixOk_of (by omega) (by rw [List.length_replicate]; omega), ck_true]
      obtain ⟨z, hz, e4, _⟩ := close_is (b := (List.replicate (7998 + u).toNat (0 : UInt8)).set 0 67) (by rw [List.length_set, List.length_replicate]; omega)
      rw [List.length_set, List.length_replicate] at hz
      have e4' : spec_l25Close ((List.replicate (7998 + u).toNat 0).set 0 (67 : UInt8)) = some z := e4
      rw [e4']
      exact ⟨z, rfl, by omega⟩
  · obtain ⟨z, s2, e2, hz, _⟩ := Bytes_is (m := 700000000000) (h1.le (by omega))
    simp only [if_true]
    rw [e2]
    exact ⟨z, rfl, by omega⟩

/-! ### The law -/

theorem SameEstimates_is {a b : List Estimate} (h : a.length ≤ 1099511627776) : spec_SameEstimates a b = some (decide (a = b)) := by
  unfold spec_SameEstimates
  by_cases hl : a.length = b.length
  · have e : (!((a.length : Int) == (b.length : Int))) = false := by simp [hl]
    rw [e]
    simp only [Bool.false_eq_true, if_false]
    rw [while_all (step := spec_SameEstimates_l1 a b) (fun i => a.getD i default == b.getD i default) a.length (decide (a = b)) (yes := .inl ()) (no := .inr false) (by
      rw [decide_eq_true_eq]; exact (getD_eq_iff hl).symm) (fun i hi => by
      simp only [spec_SameEstimates_l1, Int.ofNat_lt, hi, decide_true, if_true, ixOk_nat, ck_true, Int.toNat_natCast, wrap_nat1 (show i < 9223372036854775807 by omega), show i < b.length by omega]
      have e2 : ((((a.getD i default).Time) == ((b.getD i default).Time)) && ((((a.getD i default).Star) == ((b.getD i default).Star)) && ((((a.getD i default).Observer) == ((b.getD i default).Observer)) && ((((a.getD i default).Mag) == ((b.getD i default).Mag)) && (((a.getD i default).Fainter) == ((b.getD i default).Fainter)))))) = (a.getD i default == b.getD i default) := by
        generalize a.getD i default = x
        generalize b.getD i default = y
        rw [Bool.eq_iff_iff]
        cases x; cases y
        simp [Estimate.mk.injEq]
      rw [e2]
      cases (a.getD i default == b.getD i default) <;> rfl) (by simp [spec_SameEstimates_l1])]
    by_cases hab : a = b
    · simp [hab]
    · simp [hab]
  · have e : (!((a.length : Int) == (b.length : Int))) = true := by
      simp; omega
    rw [e]
    have : a ≠ b := fun c => hl (by rw [c])
    simp [this]

theorem SameCurve_is {a b : List Point} (h : a.length ≤ 1099511627776) : spec_SameCurve a b = some (decide (a = b)) := by
  unfold spec_SameCurve
  by_cases hl : a.length = b.length
  · have e : (!((a.length : Int) == (b.length : Int))) = false := by simp [hl]
    rw [e]
    simp only [Bool.false_eq_true, if_false]
    rw [while_all (step := spec_SameCurve_l1 a b) (fun i => a.getD i default == b.getD i default) a.length (decide (a = b)) (yes := .inl ()) (no := .inr false) (by
      rw [decide_eq_true_eq]; exact (getD_eq_iff hl).symm) (fun i hi => by
      simp only [spec_SameCurve_l1, Int.ofNat_lt, hi, decide_true, if_true, ixOk_nat, ck_true, Int.toNat_natCast, wrap_nat1 (show i < 9223372036854775807 by omega), show i < b.length by omega]
      have e2 : ((((a.getD i default).Time) == ((b.getD i default).Time)) && (((a.getD i default).Mag) == ((b.getD i default).Mag))) = (a.getD i default == b.getD i default) := by
        generalize a.getD i default = x
        generalize b.getD i default = y
        rw [Bool.eq_iff_iff]
        cases x; cases y
        simp [Point.mk.injEq]
      rw [e2]
      cases (a.getD i default == b.getD i default) <;> rfl) (by simp [spec_SameCurve_l1])]
    by_cases hab : a = b
    · simp [hab]
    · simp [hab]
  · have e : (!((a.length : Int) == (b.length : Int))) = true := by
      simp; omega
    rw [e]
    have : a ≠ b := fun c => hl (by rw [c])
    simp [this]

theorem PackE_same {l : List Estimate} (hl : l.length ≤ 1048576) : ∃ p k, spec_PackEstimates l = some (p, k) ∧ impl_PackEstimates l = some (p, k) := by
  have h := Pack_is hl
  unfold spec_PackEstimates
  rw [l06Ok_is (by omega), Option.bind_some]
  cases hg : (goodE l && decide (l.length ≤ 100))
  · rw [hg] at h
    simp only [Bool.false_eq_true, if_false] at h
    exact ⟨_, _, rfl, h⟩
  · rw [hg] at h
    simp only [if_true] at h
    obtain ⟨p, _, e1, e2⟩ := h
    simp only [Bool.not_true, Bool.false_eq_true, if_false, e1, Option.bind_some]
    exact ⟨_, _, rfl, e2⟩

theorem PackC_same {l : List Point} (hl : l.length ≤ 1048576) : ∃ p k, spec_PackCurve l = some (p, k) ∧ impl_PackCurve l = some (p, k) := by
  have h := Curve_is hl
  unfold spec_PackCurve
  rw [l08Ok_is (by omega), Option.bind_some]
  cases hg : (goodP l && decide (l.length ≤ 100))
  · rw [hg] at h
    simp only [Bool.false_eq_true, if_false] at h
    exact ⟨_, _, rfl, h⟩
  · rw [hg] at h
    simp only [if_true] at h
    obtain ⟨p, _, e1, e2⟩ := h
    simp only [Bool.not_true, Bool.false_eq_true, if_false, e1, Option.bind_some]
    exact ⟨_, _, rfl, e2⟩

theorem law_Packed {code : List UInt8} (w : code.length ≤ maxLen) : laws_FnPacked code = some true := by
  unfold laws_FnPacked laws_f6big
  simp only [Option.bind_some]
  by_cases hb : 4096 < (code.length : Int)
  · rw [if_pos (by simpa using hb)]
  · rw [if_neg (by simpa using hb)]
    have hc : code.length ≤ 1099511627776 := by omega
    obtain ⟨l, d1, hl⟩ := DrawPackEstimates_is hc
    obtain ⟨cu, d2, hcu⟩ := DrawPackCurve_is hc
    obtain ⟨x, d3, hx⟩ := DrawUnpackEstimates_is hc
    obtain ⟨y, d4, hy⟩ := DrawUnpackCurve_is hc
    obtain ⟨kd, d5, hk⟩ := DrawKindOfPacked_is hc
    obtain ⟨p, bad, a1, a2⟩ := PackE_same (l := l) (by omega)
    obtain ⟨q, one, b1, b2⟩ := PackC_same (l := cu) (by omega)
    obtain ⟨es, three, e0, e1, e2⟩ := UnpackEstimates_same (b := x) (by omega)
    obtain ⟨ps, five, f0, f1, f2⟩ := UnpackCurve_same (b := y) (by omega)
    obtain ⟨r, g1, g2⟩ := KindOfPacked_same (b := kd) (by omega)
    have last : (if (!(five == 0)) = true then some true else (impl_PackCurve ps).bind fun y_33 => some ((y_33.2 == 0) && (y_33.1 == y))) = some true := by
      by_cases h5 : five = 0
      · subst h5
        rw [if_neg (by simp), UnpackC_ok f2]
        simp
      · rw [if_pos (by simpa using h5)]
    have third : (if (three == 0) = true then (impl_PackEstimates es).bind fun y_30 => if ((!(y_30.2 == 0)) || (!(y_30.1 == x))) = true then some false
          else if (!(five == 0)) = true then some true else (impl_PackCurve ps).bind fun y_33 => some ((y_33.2 == 0) && (y_33.1 == y))
        else if (!(five == 0)) = true then some true else (impl_PackCurve ps).bind fun y_33 => some ((y_33.2 == 0) && (y_33.1 == y))) = some true := by
      by_cases h3 : three = 0
      · subst h3
        rw [if_pos (by simp), Unpack_ok e2, Option.bind_some, if_neg (by simp)]
        exact last
      · rw [if_neg (by simpa using h3)]; exact last
    have second : (if (one == 0) = true then (impl_UnpackCurve q).bind fun y_26 =>
            ck (!(!(!(y_26.2 == 0))) || (spec_SameCurve y_26.1 cu).isSome) <|
            if ((!(y_26.2 == 0)) || (!((spec_SameCurve y_26.1 cu).getD default))) = true then some false
            else (if (three == 0) = true then (impl_PackEstimates es).bind fun y_30 => if ((!(y_30.2 == 0)) || (!(y_30.1 == x))) = true then some false
          else if (!(five == 0)) = true then some true else (impl_PackCurve ps).bind fun y_33 => some ((y_33.2 == 0) && (y_33.1 == y))
        else if (!(five == 0)) = true then some true else (impl_PackCurve ps).bind fun y_33 => some ((y_33.2 == 0) && (y_33.1 == y)))
        else (if (three == 0) = true then (impl_PackEstimates es).bind fun y_30 => if ((!(y_30.2 == 0)) || (!(y_30.1 == x))) = true then some false
          else if (!(five == 0)) = true then some true else (impl_PackCurve ps).bind fun y_33 => some ((y_33.2 == 0) && (y_33.1 == y))
        else if (!(five == 0)) = true then some true else (impl_PackCurve ps).bind fun y_33 => some ((y_33.2 == 0) && (y_33.1 == y)))) = some true := by
      by_cases h1 : one = 0
      · subst h1
        rw [if_pos (by simp), UnpackC_back (by omega) b2, Option.bind_some, SameCurve_is (show cu.length ≤ 1099511627776 by omega)]
        simp only [decide_true, Option.isSome_some, Option.getD_some, Bool.or_true, ck_true, beq_self_eq_true, Bool.not_true, Bool.or_self, Bool.false_eq_true, if_false]
        exact third
      · rw [if_neg (by simpa using h1)]; exact third
    simp only [d1, d2, d3, d4, d5, a1, a2, b1, b2, e1, e2, f1, f2, g1, g2, Option.bind_some, SameEstimates_is (show es.length ≤ 1099511627776 by omega), SameCurve_is (show ps.length ≤ 1099511627776 by omega), beq_self_eq_true, decide_true, Bool.not_true, Bool.not_false, Bool.or_self, Bool.or_true, Option.isSome_some, Option.getD_some, ck_true, Bool.false_eq_true, if_false]
    by_cases h0 : bad = 0
    · subst h0
      rw [if_pos (by simp), Unpack_back (by omega) a2, Option.bind_some, SameEstimates_is (show l.length ≤ 1099511627776 by omega)]
      simp only [decide_true, Option.isSome_some, Option.getD_some, Bool.or_true, ck_true, beq_self_eq_true, Bool.not_true, Bool.or_self, Bool.false_eq_true, if_false]
      exact second
    · rw [if_neg (by simpa using h0)]; exact second

end Go.Proofs.YtpjpfdoaemoddaaGreat
