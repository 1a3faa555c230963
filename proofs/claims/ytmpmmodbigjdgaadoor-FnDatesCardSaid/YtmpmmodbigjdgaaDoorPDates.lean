/- The plain law of FnDates. No condition. -/
import Derived.Test.YtmpmmodbigjdgaaDoorHDrawS
namespace Go.Proofs.YtmpmmodbigjdgaaDoor
open Go Go.RowKit
set_option linter.unusedSimpArgs false
set_option linter.unusedVariables false

theorem law_Dates {code : List UInt8} (w : code.length ≤ maxLen) : laws_FnDates code = some true := by
  unfold laws_FnDates laws_f6big
  simp only [Option.bind_some]
  by_cases hb : 4096 < (code.length : Int)
  · rw [if_pos (by simpa using hb)]
  · rw [if_neg (by simpa using hb)]
    have hc : code.length ≤ 1099511627776 := by omega
    obtain ⟨day, s1, e1, _⟩ := l03Day_is (m := 800000000000) ((srcN_from hc).le (by omega))
    obtain ⟨x, s2, e2, _⟩ := l03Bent_is (m := 800000000000) ((srcN_from hc).le (by omega))
    obtain ⟨u, e3⟩ := DrawReadDate_is hc
    have d1 : spec_DrawDateOf code = some day := by unfold spec_DrawDateOf; rw [From_is, Option.bind_some, e1]; rfl
    have d2 : spec_DrawDayNumber code = some x := by unfold spec_DrawDayNumber; rw [From_is, Option.bind_some, e2]; rfl
    have d3 : spec_DrawWeekdayOf code = some day := by unfold spec_DrawWeekdayOf; rw [From_is, Option.bind_some, e1]; rfl
    have d4 : spec_DrawDateText code = some x := by unfold spec_DrawDateText; rw [From_is, Option.bind_some, e2]; rfl
    obtain ⟨d, e, i1, i2, i3⟩ := DateOf_same day
    obtain ⟨k, ek⟩ : ∃ k, impl_WeekdayOf day = some k := by
      unfold impl_WeekdayOf
      rw [in_is, Option.bind_some]
      split
      · exact ⟨_, rfl⟩
      · exact ⟨_, by rw [nz_of (by decide), ck_true]⟩
    have ek2 : spec_WeekdayOf day = some k := ek
    obtain ⟨yt, t1, _, t3, t4⟩ := ReadDate_same (if validD x = true then textD x else [])
    obtain ⟨yu, u1, u2, _, _⟩ := ReadDate_same u
    have hT1 : (!(yt.2 == (!((if validD x = true then textD x else []) == ([] : List UInt8))))) = false := by
      by_cases hv : validD x = true
      · rw [t3 x hv (if_pos hv), if_pos hv]; rfl
      · rw [t4 (if_neg hv), if_neg hv]; rfl
    have hT2 : (yt.2 && (!((yt.1.Year == x.Year) && ((yt.1.Month == x.Month) && (yt.1.Day == x.Day))))) = false := by
      by_cases hv : validD x = true
      · rw [t3 x hv (if_pos hv)]; simp
      · rw [t4 (if_neg hv)]; rfl
    have last : (if (!(e == 0)) = true then some true else (impl_DayNumber d).bind fun y_26 =>
            ck (!(!((!(y_26.2 == 0)) || (!(y_26.1 == day)))) || (impl_ValidDate d).isSome) <|
            if (((!(y_26.2 == 0)) || (!(y_26.1 == day))) || (!((impl_ValidDate d).getD default))) = true then
              some false
            else
              if (day == 100000) = true then
                some true
              else
                (impl_DateOf (IntKind.i64.wrap (day + 1))).bind fun y_30 =>
                some ((y_30.2 == 0) && ((decide (d.Year < y_30.1.Year)) || ((y_30.1.Year == d.Year) && ((decide (d.Month < y_30.1.Month)) || ((y_30.1.Month == d.Month) && (y_30.1.Day == (IntKind.i64.wrap (d.Day + 1))))))))) = some true := by
      by_cases he : e = 0
      · obtain ⟨g, n, b0, b1⟩ := i3 he
        have r := good_range g
        have hy := year_small g.1 (by omega)
        have hv : validD d = true := validD_iff.2 ⟨g, hy, by omega⟩
        have hm := mdP_pos d.Year d.Month
        rw [if_neg (by simp [he]), impl_DayNumber_is, impl_ValidDate_is, if_pos hv, hv, n]
        simp only [Option.bind_some, beq_self_eq_true, Bool.not_true, Bool.or_self, Option.isSome_some, Option.getD_some, Bool.or_true, ck_true, Bool.false_eq_true, if_false]
        by_cases h10 : day = 100000
        · rw [if_pos (by simpa using h10)]
        · rw [if_neg (by simpa using h10), wrap_i64 (n := day + 1) (by omega) (by omega)]
          obtain ⟨d', g', n', q'⟩ := impl_DateOf_is (day := day + 1) (by omega) (by omega)
          rw [q']
          obtain ⟨_, _, _, g4, g5⟩ := g
          rw [wrap_i64 (n := d.Day + 1) (by omega) (by omega)]
          simp only [Option.bind_some, beq_self_eq_true, Bool.true_and, Option.some.injEq]
          rcases good_order (d := d) (e := d') ⟨by assumption, by assumption, by assumption, g4, g5⟩ g' (by omega) with c | ⟨c1, c | ⟨c2, c3⟩⟩
          · simp [c]
          · simp [c1, c]
          · have : d'.Day = d.Day + 1 := by omega
            simp [c1, c2, this]
      · rw [if_pos (by simpa using he)]
    simp only [d1, d2, d3, d4, e3, i1, i2, impl_DayNumber_is x, spec_DayNumber_is x, ek, ek2, impl_DateText_is x, spec_DateText_is x, t1, u1, u2, impl_ValidDate_is x, spec_ValidDate_is x, Option.bind_some, beq_self_eq_true, Bool.not_true, Bool.not_false, Bool.and_self, Bool.or_self, Bool.or_false, Bool.false_or, Bool.or_true, Bool.true_or, Option.isSome_some, Option.getD_some, ck_true, Bool.false_eq_true, if_false, hT1, hT2]
    by_cases hv : validD x = true
    · obtain ⟨g, hy, hn⟩ := validD_iff.1 hv
      have r := good_range g
      have s0 := startP_small (y := x.Year) g.1 (by omega)
      obtain ⟨d', g', n', q'⟩ := impl_DateOf_is (day := numD x) (by omega) hn
      have : d' = x := good_inj g' g n'
      subst this
      simp only [hv, if_true, beq_self_eq_true, q', Option.bind_some, Bool.not_true, Bool.and_self, Bool.or_self, Bool.false_eq_true, if_false]
      exact last
    · simp only [hv, Bool.false_eq_true, if_false]
      exact last

end Go.Proofs.YtmpmmodbigjdgaaDoor
