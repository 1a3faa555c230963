/- The plain law of FnClocks. No condition. -/
import Derived.Test.YtbcgbmckojlpjaaDoorHClock
namespace Go.Proofs.YtbcgbmckojlpjaaDoor
open Go Go.RowKit
set_option linter.unusedSimpArgs false
set_option linter.unusedVariables false

theorem DrawTimeOf_is {c : List UInt8} (h : c.length ≤ 1099511627776) : ∃ v, spec_DrawTimeOf c = some v := by
  unfold spec_DrawTimeOf
  rw [From_is, Option.bind_some]
  obtain ⟨a, s1, e1, _, _, _, h1⟩ := pick_is (m := 800000000000) ((srcN_from h).le (by omega)) (n := 1002) (by omega)
  obtain ⟨v, s2, e2, h2⟩ := one_is (m := 700000000000) (h1.le (by omega)) (n := 10) (by omega)
  simp only [e1, e2, Option.bind_some]
  cases v
  · obtain ⟨b, s3, e3, _, _, _, h3⟩ := pick_is (m := 600000000000) (h2.le (by omega)) (n := 25) (by omega)
    obtain ⟨d, s4, e4, _, _, _, h4⟩ := pick_is (m := 500000000000) (h3.le (by omega)) (n := 16) (by omega)
    obtain ⟨e, s5, e5, _, _, _, h5⟩ := pick_is (m := 400000000000) (h4.le (by omega)) (n := 61) (by omega)
    obtain ⟨f, s6, e6, _, _, _, h6⟩ := pick_is (m := 300000000000) (h5.le (by omega)) (n := 16) (by omega)
    simp only [Bool.false_eq_true, if_false, e3, e4, e5, e6, Option.bind_some, nz_of (show (15 : Int) ≠ 0 by decide), ck_true]
    exact ⟨_, rfl⟩
  · obtain ⟨x, s7, e7, h7⟩ := l03Day_is (m := 650000000000) (h2.le (by omega))
    obtain ⟨b, s3, e3, _, _, _, h3⟩ := pick_is (m := 600000000000) (h7.le (by omega)) (n := 25) (by omega)
    obtain ⟨d, s4, e4, _, _, _, h4⟩ := pick_is (m := 500000000000) (h3.le (by omega)) (n := 16) (by omega)
    obtain ⟨e, s5, e5, _, _, _, h5⟩ := pick_is (m := 400000000000) (h4.le (by omega)) (n := 61) (by omega)
    obtain ⟨f, s6, e6, _, _, _, h6⟩ := pick_is (m := 300000000000) (h5.le (by omega)) (n := 16) (by omega)
    simp only [if_true, e7, e3, e4, e5, e6, Option.bind_some, nz_of (show (15 : Int) ≠ 0 by decide), ck_true]
    exact ⟨_, rfl⟩

theorem textT_small (t : Int) : (if timeOk t = true then textT t else []).length ≤ 30 := by
  split
  · rename_i h; exact textT_len t h
  · simp

theorem DrawReadTime_is {c : List UInt8} (h : c.length ≤ 1099511627776) : ∃ l, spec_DrawReadTime c = some l ∧ l.length ≤ 1048576 := by
  unfold spec_DrawReadTime
  rw [From_is, Option.bind_some]
  obtain ⟨t, s1, e1, _, h1⟩ := l03When_is (m := 800000000000) ((srcN_from h).le (by omega))
  rw [e1, Option.bind_some, spec_TimeText_is, Option.bind_some]
  have hl := textT_small t
  generalize (if timeOk t = true then textT t else []) = T at hl
  obtain ⟨v, s2, e2, h2⟩ := one_is (m := 700000000000) (h1.le (by omega)) (n := 3) (by omega)
  simp only [e2, Option.bind_some]
  cases v
  · obtain ⟨v2, s3, e3, h3⟩ := one_is (m := 600000000000) (h2.le (by omega)) (n := 8) (by omega)
    simp only [Bool.false_eq_true, if_false, e3, Option.bind_some]
    cases v2
    · exact ⟨_, rfl, by omega⟩
    · obtain ⟨x, s4, e4, hx, _⟩ := text_is (m := 500000000000) (h3.le (by omega)) (l := [([] : List UInt8), ([49] : List UInt8), ([49, 46, 53] : List UInt8), ([48, 49, 46, 48, 48, 48, 48] : List UInt8), ([45, 49, 46, 48, 48, 48, 48] : List UInt8), ([49, 48, 48, 48, 46, 48, 48, 48, 49] : List UInt8), ([49, 48, 48, 48, 46, 48, 48, 48, 48] : List UInt8), ([49, 46, 48, 48, 48, 48, 48] : List UInt8)]) (by simp) (by simp)
      simp only [if_true, e4, Option.bind_some]
      refine ⟨_, rfl, ?_⟩
      simp only [List.mem_cons, List.not_mem_nil, or_false] at hx
      rcases hx with rfl | rfl | rfl | rfl | rfl | rfl | rfl | rfl <;> simp
  · obtain ⟨l, s3, e3, hl3⟩ := l01Spoil_is (m := 600000000000) (h2.le (by omega)) (t := T) (by omega)
    simp only [if_true, e3, Option.bind_some]
    exact ⟨_, rfl, by omega⟩

theorem clock_back {day hour minute t : Int} (h0 : 0 ≤ day) (h1 : 0 ≤ hour) (h2 : hour ≤ 23) (h3 : 0 ≤ minute) (h4 : minute ≤ 59) (ht : t = clockP day hour minute) (hok : timeOk t = true) :
    impl_ClockOf t = some (hour, minute, 0) ∧ impl_DayOf t = some (day, 0) ∧ (t % 10000 ≠ 0 → ∃ i j, impl_ClockOf (t - 1) = some (i, j, 0) ∧ (i ≠ hour ∨ j ≠ minute)) := by
  have hb := timeOk_iff.1 hok
  unfold clockP at ht
  refine ⟨?_, ?_, fun hn => ?_⟩
  · rw [ClockOf_is hok]
    have e1 : t % 10000 = ((hour * 60 + minute) * 10000 + 1439) / 1440 := by omega
    have e2 : t % 10000 * 1440 / 10000 = hour * 60 + minute := by rw [e1]; omega
    rw [e2]
    have e3 : (hour * 60 + minute) / 60 = hour := by omega
    have e4 : (hour * 60 + minute) % 60 = minute := by omega
    rw [e3, e4]
  · rw [DayOf_is hok]
    congr 2; omega
  · have hok2 : timeOk (t - 1) = true := timeOk_iff.2 ⟨by omega, by omega⟩
    refine ⟨_, _, ClockOf_is hok2, ?_⟩
    have e0 : t % 10000 = ((hour * 60 + minute) * 10000 + 1439) / 1440 := by omega
    have e1 : (t - 1) % 10000 = ((hour * 60 + minute) * 10000 + 1439) / 1440 - 1 := by
      generalize ((hour * 60 + minute) * 10000 + 1439) / 1440 = q at *
      omega
    have e2 : (t - 1) % 10000 * 1440 / 10000 < hour * 60 + minute := by rw [e1]; omega
    omega

theorem law_Clocks {code : List UInt8} (w : code.length ≤ maxLen) : laws_FnClocks code = some true := by
  unfold laws_FnClocks laws_f6big
  simp only [Option.bind_some]
  by_cases hb : 4096 < (code.length : Int)
  · rw [if_pos (by simpa using hb)]
  · rw [if_neg (by simpa using hb)]
    have hc : code.length ≤ 1099511627776 := by omega
    obtain ⟨⟨day, hour, minute⟩, d1⟩ := DrawTimeOf_is hc
    obtain ⟨x, s1, e1, _, k1⟩ := l03When_is (m := 800000000000) ((srcN_from hc).le (by omega))
    obtain ⟨q, s2, e2, _, _⟩ := l03When_is (m := 700000000000) (k1.le (by omega))
    have d2 : spec_DrawClockOf code = some x := by unfold spec_DrawClockOf; rw [From_is, Option.bind_some, e1]; rfl
    have d3 : spec_DrawDayOf code = some x := by unfold spec_DrawDayOf; rw [From_is, Option.bind_some, e1]; rfl
    have d4 : spec_DrawHoursBetween code = some (x, q) := by unfold spec_DrawHoursBetween; rw [From_is, Option.bind_some, e1, Option.bind_some, e2]; rfl
    have d5 : spec_DrawTimeText code = some x := by unfold spec_DrawTimeText; rw [From_is, Option.bind_some, e1]; rfl
    obtain ⟨u, d6, hu⟩ := DrawReadTime_is hc
    obtain ⟨t, e, t1, t2, t3⟩ := TimeOf_same day hour minute
    have ck1 : ∃ y, impl_ClockOf x = some y ∧ spec_ClockOf x = some y := by
      have : ∃ y, impl_ClockOf x = some y := by
        cases hv : timeOk x
        · unfold impl_ClockOf; rw [impl_ValidTime_is, hv]; exact ⟨_, rfl⟩
        · exact ⟨_, ClockOf_is hv⟩
      obtain ⟨y, hy⟩ := this
      exact ⟨y, hy, by rw [← ClockOf_same]; exact hy⟩
    obtain ⟨yc, c1, c2⟩ := ck1
    have dk1 : ∃ y, impl_DayOf x = some y ∧ spec_DayOf x = some y := by
      have : ∃ y, impl_DayOf x = some y := by
        cases hv : timeOk x
        · unfold impl_DayOf; rw [impl_ValidTime_is, hv]; exact ⟨_, rfl⟩
        · exact ⟨_, DayOf_is hv⟩
      obtain ⟨y, hy⟩ := this
      exact ⟨y, hy, by rw [← DayOf_same]; exact hy⟩
    obtain ⟨yd, c3, c4⟩ := dk1
    obtain ⟨f, g, eh, f1, f2, f3, f4⟩ := Hours_same x q
    obtain ⟨yt, r1, _, r3, r4⟩ := ReadTime_same (s := if timeOk x = true then textT x else []) (by have := textT_small x; omega)
    obtain ⟨yu, u1, u2, _, _⟩ := ReadTime_same (s := u) hu
    have hT1 : (!(yt.2 == (!((if timeOk x = true then textT x else []) == ([] : List UInt8))))) = false := by
      by_cases hv : timeOk x = true
      · rw [r3 x hv (if_pos hv), if_pos hv]
        have : (textT x == ([] : List UInt8)) = false := by simp [textT, Go.Proofs.YtbcgbmckojlpjaaDoor.d4]
        rw [this]; rfl
      · rw [r4 (if_neg hv), if_neg hv]; rfl
    have hT2 : (yt.2 && (!(yt.1 == x))) = false := by
      by_cases hv : timeOk x = true
      · rw [r3 x hv (if_pos hv)]; simp
      · rw [r4 (if_neg hv)]; rfl
    have hF : ((eh == 0) && ((!(f.Num == (IntKind.i64.wrap (0 - g.Num)))) || (!(f.Den == g.Den)))) = false := by
      by_cases h0 : eh = 0
      · obtain ⟨a, b⟩ := f4 h0
        rw [a, b]; simp
      · simp [h0]
    have v1 : spec_ValidTime x = some (timeOk x) := id rfl
    simp only [d1, d2, d3, d4, d5, d6, t1, t2, c1, c2, c3, c4, f1, f2, f3, impl_TimeText_is x, spec_TimeText_is x, r1, u1, u2, impl_ValidTime_is x, v1, Option.bind_some, beq_self_eq_true, Bool.not_true, Bool.not_false, Bool.and_self, Bool.or_self, Bool.or_false, Bool.false_or, Bool.or_true, Bool.true_or, Option.isSome_some, Option.getD_some, ck_true, Bool.false_eq_true, if_false, hT1, hT2, hF]
    by_cases he : e = 0
    · obtain ⟨a1, a2, a3, a4, a5, a6, a7, a8⟩ := t3 he
      obtain ⟨b1, b2, b3⟩ := clock_back a1 a3 a4 a5 a6 a7 a8
      have hb8 := timeOk_iff.1 a8
      rw [if_neg (by simp [he]), b1, b2]
      simp only [Option.bind_some, beq_self_eq_true, Bool.not_true, Bool.or_self, Bool.false_eq_true, if_false, nz_of (show (10000 : Int) ≠ 0 by decide), ck_true, tm hb8.1]
      by_cases hz : t % 10000 = 0
      · rw [if_pos (by simpa using hz)]
      · obtain ⟨i, j, b4, b5⟩ := b3 hz
        rw [if_neg (by simpa using hz), wrap_i64 (by omega) (by omega), b4]
        simp only [Option.bind_some, beq_self_eq_true, Bool.true_and, Option.some.injEq]
        rcases b5 with c | c
        · simp [c]
        · simp [c]
    · rw [if_pos (by simpa using he)]

end Go.Proofs.YtbcgbmckojlpjaaDoor
