/- The plain law of FnRules: draws, and lists of rules. No condition. -/
import Derived.Test.YtelkmhdolnjnpaaGreatDoorHRuleT
import Derived.Test.YtelkmhdolnjnpaaGreatDoorHPC
namespace Go.Proofs.YtelkmhdolnjnpaaGreatDoor
open Go Go.RowKit
set_option linter.unusedSimpArgs false
set_option linter.unusedVariables false

/-! ### Draws -/

theorem classes_good : ∀ n ∈ [([99, 101, 112, 104, 101, 105, 100] : List UInt8), ([109, 105, 114, 97] : List UInt8), ([101, 99, 108, 105, 112, 115, 105, 110, 103] : List UInt8), ([114, 114, 45, 108, 121, 114, 97, 101] : List UInt8)], nameB n = true := by decide

theorem l18New_good {m : Nat} {s : L00Src} (h : SrcN (m + 20) s) : ∃ x s', spec_l18New s = some (x, s') ∧ oneRu x = true ∧ SrcN m s' := by
  unfold spec_l18New
  obtain ⟨n, s1, e1, hn, h1⟩ := text_is (m := m + 18) h (l := [([99, 101, 112, 104, 101, 105, 100] : List UInt8), ([109, 105, 114, 97] : List UInt8), ([101, 99, 108, 105, 112, 115, 105, 110, 103] : List UInt8), ([114, 114, 45, 108, 121, 114, 97, 101] : List UInt8)]) (by simp) (by simp)
  have hn' := classes_good n hn
  obtain ⟨a, s2, e2, a0, a1, _, h2⟩ := pick_is (m := m + 16) h1 (n := 4) (by omega)
  obtain ⟨b, s3, e3, b0, b1, _, h3⟩ := pick_is (m := m + 14) h2 (n := 5) (by omega)
  obtain ⟨c, s4, e4, c0, c1, _, h4⟩ := pick_is (m := m + 12) h3 (n := 4) (by omega)
  obtain ⟨d, s5, e5, d0, d1, _, h5⟩ := pick_is (m := m + 10) h4 (n := 5) (by omega)
  obtain ⟨e, s6, e6, f0, f1, _, h6⟩ := pick_is (m := m + 8) h5 (n := 4) (by omega)
  have a2 := a1 (by omega); have b2 := b1 (by omega); have c2 := c1 (by omega); have d2 := d1 (by omega); have f2 := f1 (by omega)
  rw [e1, Option.bind_some, e2, Option.bind_some, e3, Option.bind_some, e4, Option.bind_some, e5, Option.bind_some, e6]
  refine ⟨_, _, rfl, ?_, h6.le (by omega)⟩
  simp only
  rw [wrap_i64 (n := 500 * a) (by omega) (by omega), wrap_i64 (n := 500 * b) (by omega) (by omega), wrap_i64 (n := 10000 * c) (by omega) (by omega), wrap_i64 (n := 10000 * d) (by omega) (by omega), wrap_i64 (n := 500 * a + 500 * b) (by omega) (by omega), wrap_i64 (n := 10000 * c + 10000 * d) (by omega) (by omega)]
  unfold oneRu
  simp only [hn', Bool.true_and, Bool.and_eq_true, decide_eq_true_eq]
  omega

theorem l18New_is {m : Nat} {s : L00Src} (h : SrcN (m + 20) s) : ∃ x s', spec_l18New s = some (x, s') ∧ SrcN m s' := by
  obtain ⟨x, s', e, _, h'⟩ := l18New_good h
  exact ⟨x, s', e, h'⟩

theorem bentRu_loop {step : L00Src × List Rule × Int → Option ((L00Src × List Rule × Int) ⊕ (L00Src × List Rule))}
    (hs : ∀ (s : L00Src) (l : List Rule) (k : Int) , step (s, l, k) = if (decide (0 < k)) then (spec_l18New s).bind fun y_6 => ck (appOk (l.length + ([y_6.1] : List Rule).length) 56) <| some (.inl (y_6.2, (l ++ ([y_6.1] : List Rule)), (IntKind.i64.wrap (k - 1)))) else some (.inr (s, l)))
    {m : Nat} {s : L00Src} {n : Int} (h0 : 0 ≤ n) (h1 : n ≤ 13) (h : SrcN (m + 300) s) : ∃ l s', whileE step (s, ([] : List Rule), n) = some (s', l) ∧ l.length ≤ 13 ∧ SrcN m s' := by
  obtain ⟨y, hy, hq⟩ := while_post (step := step) (fun x => 0 ≤ x.2.2 ∧ (x.2.1.length : Int) + x.2.2 ≤ 13 ∧ SrcN (m + 20 * x.2.2.toNat) x.1) (fun y => y.2.length ≤ 13 ∧ SrcN m y.1) (fun x => x.2.2.toNat) (by
    rintro ⟨s, l, k⟩ ⟨k0, k1, hk⟩
    simp only at k0 k1 hk
    rw [hs]
    by_cases c : 0 < k
    · left
      obtain ⟨x, s', e, h'⟩ := l18New_is (m := m + 20 * (k - 1).toNat) (hk.le (by omega))
      simp only [c, decide_true, if_true, e, Option.bind_some]
      rw [appOk_of (by simp; omega), ck_true, wrap_i64 (n := k - 1) (by omega) (by omega)]
      exact ⟨_, rfl, ⟨by show 0 ≤ k - 1; omega, by show ((l ++ [_]).length : Int) + (k - 1) ≤ 13; simp; omega, h'⟩, by show (k - 1).toNat < k.toNat; omega⟩
    · right
      exact ⟨(s, l), by simp [c], by show l.length ≤ 13; omega, hk.le (by omega)⟩) (s := (s, ([] : List Rule), n)) ⟨h0, by simp; omega, h.le (by show m + 20 * n.toNat ≤ m + 300; omega)⟩
  exact ⟨y.2, y.1, hy, hq.1, hq.2⟩

theorem bentRu_tail {m : Nat} {s : L00Src} (h : SrcN (m + 40) s) {l : List Rule} (hl : l.length ≤ 14) : ∃ l' s', (
    if ((l.length : Int) == 0) then
      some (l, s)
    else
      (spec_l00Src_pick s (l.length : Int)).bind fun y_62 =>
      ck (ixOk y_62.1 l.length) <|
      (spec_l00Src_pick y_62.2 30).bind fun y_64 =>
      if (y_64.1 == 0) then
        (spec_l00Src_text y_64.2 ([([] : List UInt8), ([77, 105, 114, 97] : List UInt8), ([109] : List UInt8)] : List (List UInt8))).bind fun y_66 =>
        some ((l.set y_62.1.toNat (Rule.mk y_66.1 ((l.getD y_62.1.toNat default).FromAmp) ((l.getD y_62.1.toNat default).ToAmp) ((l.getD y_62.1.toNat default).FromPer) ((l.getD y_62.1.toNat default).ToPer) ((l.getD y_62.1.toNat default).Shape))), y_66.2)
      else
        if (y_64.1 == 1) then
          (spec_l00Src_among y_64.2 ([(-1), 0, (l.getD y_62.1.toNat default).ToAmp, (IntKind.i64.wrap (((l.getD y_62.1.toNat default).ToAmp) + 1))] : List Int)).bind fun y_68 =>
          some ((l.set y_62.1.toNat (Rule.mk ((l.getD y_62.1.toNat default).Class) y_68.1 ((l.getD y_62.1.toNat default).ToAmp) ((l.getD y_62.1.toNat default).FromPer) ((l.getD y_62.1.toNat default).ToPer) ((l.getD y_62.1.toNat default).Shape))), y_68.2)
        else
          if (y_64.1 == 2) then
            (spec_l00Src_among y_64.2 ([20000, 20001, (-9223372036854775808)] : List Int)).bind fun y_70 =>
            some ((l.set y_62.1.toNat (Rule.mk ((l.getD y_62.1.toNat default).Class) ((l.getD y_62.1.toNat default).FromAmp) y_70.1 ((l.getD y_62.1.toNat default).FromPer) ((l.getD y_62.1.toNat default).ToPer) ((l.getD y_62.1.toNat default).Shape))), y_70.2)
          else
            if (y_64.1 == 3) then
              (spec_l00Src_among y_64.2 ([1000000, 1000001, 9223372036854775807] : List Int)).bind fun y_72 =>
              some ((l.set y_62.1.toNat (Rule.mk ((l.getD y_62.1.toNat default).Class) ((l.getD y_62.1.toNat default).FromAmp) ((l.getD y_62.1.toNat default).ToAmp) ((l.getD y_62.1.toNat default).FromPer) y_72.1 ((l.getD y_62.1.toNat default).Shape))), y_72.2)
            else
              if (y_64.1 == 4) then
                (spec_l00Src_among y_64.2 ([(-1), 0, 3, 4] : List Int)).bind fun y_74 =>
                some ((l.set y_62.1.toNat (Rule.mk ((l.getD y_62.1.toNat default).Class) ((l.getD y_62.1.toNat default).FromAmp) ((l.getD y_62.1.toNat default).ToAmp) ((l.getD y_62.1.toNat default).FromPer) ((l.getD y_62.1.toNat default).ToPer) y_74.1)), y_74.2)
              else
                some (l, y_64.2)) = some (l', s') ∧ l'.length ≤ 14 ∧ SrcN m s' := by
  split
  · exact ⟨_, _, rfl, hl, h.le (by omega)⟩
  · rename_i hz
    have hp : 0 < l.length := by
      rcases Nat.eq_zero_or_pos l.length with a | a
      · exact absurd (by simp [a]) hz
      · exact a
    obtain ⟨u, s1, e1, u0, u1, _, h1⟩ := pick_is (m := m + 38) h (n := (l.length : Int)) (by omega)
    have u2 := u1 (by omega)
    obtain ⟨v, s2, e2, _, _, _, h2⟩ := pick_is (m := m + 36) h1 (n := 30) (by omega)
    rw [e1, Option.bind_some]
    simp only
    rw [ixOk_of u0 u2, ck_true, e2, Option.bind_some]
    simp only
    split
    · obtain ⟨x, s3, e3, _, h3⟩ := text_is (m := m + 30) (h2.le (by omega)) (l := [([] : List UInt8), ([77, 105, 114, 97] : List UInt8), ([109] : List UInt8)]) (by simp) (by simp)
      rw [e3]; exact ⟨_, _, rfl, by simp only [List.length_set]; exact hl, h3.le (by omega)⟩
    · split
      · obtain ⟨x, s3, e3, _, h3⟩ := among_is (m := m + 30) (h2.le (by omega)) (l := [(-1), 0, (l.getD u.toNat default).ToAmp, (IntKind.i64.wrap (((l.getD u.toNat default).ToAmp) + 1))]) (by simp) (by simp)
        rw [e3]; exact ⟨_, _, rfl, by simp only [List.length_set]; exact hl, h3.le (by omega)⟩
      · split
        · obtain ⟨x, s3, e3, _, h3⟩ := among_is (m := m + 30) (h2.le (by omega)) (l := [20000, 20001, (-9223372036854775808)]) (by simp) (by simp)
          rw [e3]; exact ⟨_, _, rfl, by simp only [List.length_set]; exact hl, h3.le (by omega)⟩
        · split
          · obtain ⟨x, s3, e3, _, h3⟩ := among_is (m := m + 30) (h2.le (by omega)) (l := [1000000, 1000001, 9223372036854775807]) (by simp) (by simp)
            rw [e3]; exact ⟨_, _, rfl, by simp only [List.length_set]; exact hl, h3.le (by omega)⟩
          · split
            · obtain ⟨x, s3, e3, _, h3⟩ := among_is (m := m + 30) (h2.le (by omega)) (l := [(-1), 0, 3, 4]) (by simp) (by simp)
              rw [e3]; exact ⟨_, _, rfl, by simp only [List.length_set]; exact hl, h3.le (by omega)⟩
            · exact ⟨_, _, rfl, hl, h2.le (by omega)⟩

theorem bentRu_mid {m : Nat} {s : L00Src} (h : SrcN (m + 90) s) {l : List Rule} (hl : l.length ≤ 13) : ∃ l' s', (
    (spec_l00Src_one s 4).bind fun y_44 =>
    if y_44.1 then
      ck (appOk (l.length + ([(Rule.mk ([114, 101, 115, 116] : List UInt8) 0 20000 0 1000000 0)] : List Rule).length) 56) <|
      if (((l ++ ([(Rule.mk ([114, 101, 115, 116] : List UInt8) 0 20000 0 1000000 0)] : List Rule)).length : Int) == 0) then
        some ((l ++ ([(Rule.mk ([114, 101, 115, 116] : List UInt8) 0 20000 0 1000000 0)] : List Rule)), y_44.2)
      else
        (spec_l00Src_pick y_44.2 ((l ++ ([(Rule.mk ([114, 101, 115, 116] : List UInt8) 0 20000 0 1000000 0)] : List Rule)).length : Int)).bind fun y_48 =>
        ck (ixOk y_48.1 ((l ++ ([(Rule.mk ([114, 101, 115, 116] : List UInt8) 0 20000 0 1000000 0)] : List Rule)).length)) <|
        (spec_l00Src_pick y_48.2 30).bind fun y_50 =>
        if (y_50.1 == 0) then
          (spec_l00Src_text y_50.2 ([([] : List UInt8), ([77, 105, 114, 97] : List UInt8), ([109] : List UInt8)] : List (List UInt8))).bind fun y_52 =>
          some (((l ++ ([(Rule.mk ([114, 101, 115, 116] : List UInt8) 0 20000 0 1000000 0)] : List Rule)).set y_48.1.toNat (Rule.mk y_52.1 (((l ++ ([(Rule.mk ([114, 101, 115, 116] : List UInt8) 0 20000 0 1000000 0)] : List Rule)).getD y_48.1.toNat default).FromAmp) (((l ++ ([(Rule.mk ([114, 101, 115, 116] : List UInt8) 0 20000 0 1000000 0)] : List Rule)).getD y_48.1.toNat default).ToAmp) (((l ++ ([(Rule.mk ([114, 101, 115, 116] : List UInt8) 0 20000 0 1000000 0)] : List Rule)).getD y_48.1.toNat default).FromPer) (((l ++ ([(Rule.mk ([114, 101, 115, 116] : List UInt8) 0 20000 0 1000000 0)] : List Rule)).getD y_48.1.toNat default).ToPer) (((l ++ ([(Rule.mk ([114, 101, 115, 116] : List UInt8) 0 20000 0 1000000 0)] : List Rule)).getD y_48.1.toNat default).Shape))), y_52.2)
        else
          if (y_50.1 == 1) then
            (spec_l00Src_among y_50.2 ([(-1), 0, ((l ++ ([(Rule.mk ([114, 101, 115, 116] : List UInt8) 0 20000 0 1000000 0)] : List Rule)).getD y_48.1.toNat default).ToAmp, (IntKind.i64.wrap ((((l ++ ([(Rule.mk ([114, 101, 115, 116] : List UInt8) 0 20000 0 1000000 0)] : List Rule)).getD y_48.1.toNat default).ToAmp) + 1))] : List Int)).bind fun y_54 =>
            some (((l ++ ([(Rule.mk ([114, 101, 115, 116] : List UInt8) 0 20000 0 1000000 0)] : List Rule)).set y_48.1.toNat (Rule.mk (((l ++ ([(Rule.mk ([114, 101, 115, 116] : List UInt8) 0 20000 0 1000000 0)] : List Rule)).getD y_48.1.toNat default).Class) y_54.1 (((l ++ ([(Rule.mk ([114, 101, 115, 116] : List UInt8) 0 20000 0 1000000 0)] : List Rule)).getD y_48.1.toNat default).ToAmp) (((l ++ ([(Rule.mk ([114, 101, 115, 116] : List UInt8) 0 20000 0 1000000 0)] : List Rule)).getD y_48.1.toNat default).FromPer) (((l ++ ([(Rule.mk ([114, 101, 115, 116] : List UInt8) 0 20000 0 1000000 0)] : List Rule)).getD y_48.1.toNat default).ToPer) (((l ++ ([(Rule.mk ([114, 101, 115, 116] : List UInt8) 0 20000 0 1000000 0)] : List Rule)).getD y_48.1.toNat default).Shape))), y_54.2)
          else
            if (y_50.1 == 2) then
              (spec_l00Src_among y_50.2 ([20000, 20001, (-9223372036854775808)] : List Int)).bind fun y_56 =>
              some (((l ++ ([(Rule.mk ([114, 101, 115, 116] : List UInt8) 0 20000 0 1000000 0)] : List Rule)).set y_48.1.toNat (Rule.mk (((l ++ ([(Rule.mk ([114, 101, 115, 116] : List UInt8) 0 20000 0 1000000 0)] : List Rule)).getD y_48.1.toNat default).Class) (((l ++ ([(Rule.mk ([114, 101, 115, 116] : List UInt8) 0 20000 0 1000000 0)] : List Rule)).getD y_48.1.toNat default).FromAmp) y_56.1 (((l ++ ([(Rule.mk ([114, 101, 115, 116] : List UInt8) 0 20000 0 1000000 0)] : List Rule)).getD y_48.1.toNat default).FromPer) (((l ++ ([(Rule.mk ([114, 101, 115, 116] : List UInt8) 0 20000 0 1000000 0)] : List Rule)).getD y_48.1.toNat default).ToPer) (((l ++ ([(Rule.mk ([114, 101, 115, 116] : List UInt8) 0 20000 0 1000000 0)] : List Rule)).getD y_48.1.toNat default).Shape))), y_56.2)
            else
              if (y_50.1 == 3) then
                (spec_l00Src_among y_50.2 ([1000000, 1000001, 9223372036854775807] : List Int)).bind fun y_58 =>
                some (((l ++ ([(Rule.mk ([114, 101, 115, 116] : List UInt8) 0 20000 0 1000000 0)] : List Rule)).set y_48.1.toNat (Rule.mk (((l ++ ([(Rule.mk ([114, 101, 115, 116] : List UInt8) 0 20000 0 1000000 0)] : List Rule)).getD y_48.1.toNat default).Class) (((l ++ ([(Rule.mk ([114, 101, 115, 116] : List UInt8) 0 20000 0 1000000 0)] : List Rule)).getD y_48.1.toNat default).FromAmp) (((l ++ ([(Rule.mk ([114, 101, 115, 116] : List UInt8) 0 20000 0 1000000 0)] : List Rule)).getD y_48.1.toNat default).ToAmp) (((l ++ ([(Rule.mk ([114, 101, 115, 116] : List UInt8) 0 20000 0 1000000 0)] : List Rule)).getD y_48.1.toNat default).FromPer) y_58.1 (((l ++ ([(Rule.mk ([114, 101, 115, 116] : List UInt8) 0 20000 0 1000000 0)] : List Rule)).getD y_48.1.toNat default).Shape))), y_58.2)
              else
                if (y_50.1 == 4) then
                  (spec_l00Src_among y_50.2 ([(-1), 0, 3, 4] : List Int)).bind fun y_60 =>
                  some (((l ++ ([(Rule.mk ([114, 101, 115, 116] : List UInt8) 0 20000 0 1000000 0)] : List Rule)).set y_48.1.toNat (Rule.mk (((l ++ ([(Rule.mk ([114, 101, 115, 116] : List UInt8) 0 20000 0 1000000 0)] : List Rule)).getD y_48.1.toNat default).Class) (((l ++ ([(Rule.mk ([114, 101, 115, 116] : List UInt8) 0 20000 0 1000000 0)] : List Rule)).getD y_48.1.toNat default).FromAmp) (((l ++ ([(Rule.mk ([114, 101, 115, 116] : List UInt8) 0 20000 0 1000000 0)] : List Rule)).getD y_48.1.toNat default).ToAmp) (((l ++ ([(Rule.mk ([114, 101, 115, 116] : List UInt8) 0 20000 0 1000000 0)] : List Rule)).getD y_48.1.toNat default).FromPer) (((l ++ ([(Rule.mk ([114, 101, 115, 116] : List UInt8) 0 20000 0 1000000 0)] : List Rule)).getD y_48.1.toNat default).ToPer) y_60.1)), y_60.2)
                else
                  some ((l ++ ([(Rule.mk ([114, 101, 115, 116] : List UInt8) 0 20000 0 1000000 0)] : List Rule)), y_50.2)
    else
      if ((l.length : Int) == 0) then
        some (l, y_44.2)
      else
        (spec_l00Src_pick y_44.2 (l.length : Int)).bind fun y_62 =>
        ck (ixOk y_62.1 l.length) <|
        (spec_l00Src_pick y_62.2 30).bind fun y_64 =>
        if (y_64.1 == 0) then
          (spec_l00Src_text y_64.2 ([([] : List UInt8), ([77, 105, 114, 97] : List UInt8), ([109] : List UInt8)] : List (List UInt8))).bind fun y_66 =>
          some ((l.set y_62.1.toNat (Rule.mk y_66.1 ((l.getD y_62.1.toNat default).FromAmp) ((l.getD y_62.1.toNat default).ToAmp) ((l.getD y_62.1.toNat default).FromPer) ((l.getD y_62.1.toNat default).ToPer) ((l.getD y_62.1.toNat default).Shape))), y_66.2)
        else
          if (y_64.1 == 1) then
            (spec_l00Src_among y_64.2 ([(-1), 0, (l.getD y_62.1.toNat default).ToAmp, (IntKind.i64.wrap (((l.getD y_62.1.toNat default).ToAmp) + 1))] : List Int)).bind fun y_68 =>
            some ((l.set y_62.1.toNat (Rule.mk ((l.getD y_62.1.toNat default).Class) y_68.1 ((l.getD y_62.1.toNat default).ToAmp) ((l.getD y_62.1.toNat default).FromPer) ((l.getD y_62.1.toNat default).ToPer) ((l.getD y_62.1.toNat default).Shape))), y_68.2)
          else
            if (y_64.1 == 2) then
              (spec_l00Src_among y_64.2 ([20000, 20001, (-9223372036854775808)] : List Int)).bind fun y_70 =>
              some ((l.set y_62.1.toNat (Rule.mk ((l.getD y_62.1.toNat default).Class) ((l.getD y_62.1.toNat default).FromAmp) y_70.1 ((l.getD y_62.1.toNat default).FromPer) ((l.getD y_62.1.toNat default).ToPer) ((l.getD y_62.1.toNat default).Shape))), y_70.2)
            else
              if (y_64.1 == 3) then
                (spec_l00Src_among y_64.2 ([1000000, 1000001, 9223372036854775807] : List Int)).bind fun y_72 =>
                some ((l.set y_62.1.toNat (Rule.mk ((l.getD y_62.1.toNat default).Class) ((l.getD y_62.1.toNat default).FromAmp) ((l.getD y_62.1.toNat default).ToAmp) ((l.getD y_62.1.toNat default).FromPer) y_72.1 ((l.getD y_62.1.toNat default).Shape))), y_72.2)
              else
                if (y_64.1 == 4) then
                  (spec_l00Src_among y_64.2 ([(-1), 0, 3, 4] : List Int)).bind fun y_74 =>
                  some ((l.set y_62.1.toNat (Rule.mk ((l.getD y_62.1.toNat default).Class) ((l.getD y_62.1.toNat default).FromAmp) ((l.getD y_62.1.toNat default).ToAmp) ((l.getD y_62.1.toNat default).FromPer) ((l.getD y_62.1.toNat default).ToPer) y_74.1)), y_74.2)
                else
                  some (l, y_64.2)) = some (l', s') ∧ l'.length ≤ 14 ∧ SrcN m s' := by
  obtain ⟨v, s5, e5, h5⟩ := one_is (m := m + 80) (h.le (by omega)) (n := 4) (by omega)
  rw [e5, Option.bind_some]
  cases v
  · rw [if_neg (by simp)]
    exact bentRu_tail (h5.le (by omega)) (by omega)
  · rw [if_pos rfl, appOk_of (by simp; omega), ck_true]
    exact bentRu_tail (l := l ++ [_]) (h5.le (by omega)) (by simp; omega)

theorem l18Bent_is {m : Nat} {s : L00Src} (h : SrcN (m + 1000) s) : ∃ l s', spec_l18Bent s = some (l, s') ∧ l.length ≤ 14 ∧ SrcN m s' := by
  unfold spec_l18Bent
  obtain ⟨a, s1, e1, a0, a1, _, h1⟩ := pick_is (m := m + 990) (h.le (by omega)) (n := 7) (by omega)
  have a2 := a1 (by omega)
  obtain ⟨b, s2, e2, h2⟩ := one_is (m := m + 980) (h1.le (by omega)) (n := 24) (by omega)
  rw [e1, Option.bind_some, e2, Option.bind_some]
  cases b
  · obtain ⟨l, s4, e4, hl, h4⟩ := bentRu_loop (step := spec_l18Bent_l2) (fun s l k => id rfl) (m := m + 100) (s := s2) (n := a) (by omega) (by omega) (h2.le (by omega))
    rw [if_neg (by simp), e4, Option.bind_some]
    exact bentRu_mid (h4.le (by omega)) hl
  · obtain ⟨u, s3, e3, u0, u1, _, h3⟩ := pick_is (m := m + 970) (h2.le (by omega)) (n := 2) (by omega)
    have u2 := u1 (by omega)
    obtain ⟨l, s4, e4, hl, h4⟩ := bentRu_loop (step := spec_l18Bent_l1) (fun s l k => id rfl) (m := m + 100) (s := s3) (n := 12 + u) (by omega) (by omega) (h3.le (by omega))
    rw [if_pos rfl, e3, Option.bind_some, wrap_i64 (n := 12 + u) (by omega) (by omega), e4, Option.bind_some]
    exact bentRu_mid (h4.le (by omega)) hl

theorem l18Two_is {c : List UInt8} (h : c.length ≤ 1099511627776) : ∃ l a b, spec_l18Two c = some (l, a, b) ∧ l.length ≤ 14 := by
  unfold spec_l18Two
  obtain ⟨l, s1, e1, hl, h1⟩ := l18Bent_is (m := 10000) ((srcN_from h).le (by omega))
  have w : IntKind.i64.wrap ((l.length : Int) + 1) = (l.length : Int) + 1 := wrap_i64 (by omega) (by omega)
  obtain ⟨a, s2, e2, _, _, _, h2⟩ := pick_is (m := 9000) (h1.le (by omega)) (n := (l.length : Int) + 1) (by omega)
  obtain ⟨b, s3, e3, _, _, _, h3⟩ := pick_is (m := 8000) (h2.le (by omega)) (n := 16) (by omega)
  obtain ⟨d, s4, e4, _, _, _, h4⟩ := pick_is (m := 7000) (h3.le (by omega)) (n := (l.length : Int) + 1) (by omega)
  obtain ⟨e, s5, e5, _, _, _, h5⟩ := pick_is (m := 6000) (h4.le (by omega)) (n := 16) (by omega)
  rw [From_is, Option.bind_some, e1, Option.bind_some]
  simp only [w]
  rw [e2, Option.bind_some, e3, Option.bind_some, nz_of (by omega), ck_true, e4, Option.bind_some, e5]
  exact ⟨_, _, _, rfl, hl⟩

theorem l18Facts_draw {m : Nat} {s : L00Src} (h : SrcN (m + 5000) s) : ∃ f s', spec_l18DrawFacts s = some (f, s') := by
  unfold spec_l18DrawFacts
  obtain ⟨a, s2, e2, _, _, _, h2⟩ := pick_is (m := m + 4000) (h.le (by omega)) (n := 14) (by omega)
  obtain ⟨b, s3, e3, _, _, _, h3⟩ := pick_is (m := m + 3000) (h2.le (by omega)) (n := 16) (by omega)
  obtain ⟨d, s4, e4, _, _, _, h4⟩ := pick_is (m := m + 2000) (h3.le (by omega)) (n := 3) (by omega)
  obtain ⟨e, s5, e5, _, _, _, h5⟩ := pick_is (m := m + 1000) (h4.le (by omega)) (n := 16) (by omega)
  rw [e2, Option.bind_some, e3, Option.bind_some, e4, Option.bind_some, e5, Option.bind_some]
  simp only
  split
  · obtain ⟨x, s6, e6, _⟩ := among_is (m := m + 100) (h5.le (by omega)) (l := [(-1), 0, 20000, 20001]) (by simp) (by simp)
    rw [e6]; exact ⟨_, _, rfl⟩
  · split
    · obtain ⟨x, s6, e6, _⟩ := among_is (m := m + 100) (h5.le (by omega)) (l := [(-1), 0, 1000000, 1000001]) (by simp) (by simp)
      rw [e6]; exact ⟨_, _, rfl⟩
    · split
      · obtain ⟨x, s6, e6, _⟩ := among_is (m := m + 100) (h5.le (by omega)) (l := [0, 1, 3, 4]) (by simp) (by simp)
        rw [e6]; exact ⟨_, _, rfl⟩
      · exact ⟨_, _, rfl⟩

theorem DrawClass_is {c : List UInt8} (h : c.length ≤ 1099511627776) : ∃ l f, spec_DrawClassOf c = some (l, f) ∧ l.length ≤ 14 := by
  unfold spec_DrawClassOf spec_l18Ask
  obtain ⟨l, s1, e1, hl, h1⟩ := l18Bent_is (m := 10000) ((srcN_from h).le (by omega))
  obtain ⟨f, s2, e2⟩ := l18Facts_draw (m := 1000) (h1.le (by omega))
  rw [From_is, Option.bind_some, e1, Option.bind_some]
  simp only
  rw [e2]
  exact ⟨_, _, rfl, hl⟩

theorem l18Other_is {m : Nat} {s : L00Src} (h : SrcN (m + 2000) s) : ∃ x s', spec_l18Other s = some (x, s') ∧ SrcN m s' := by
  unfold spec_l18Other
  obtain ⟨l, s1, e1, hl, h1⟩ := l18Bent_is (m := m + 1000) (h.le (by omega))
  rw [e1, Option.bind_some]
  simp only
  split
  · obtain ⟨x, s2, e2, h2⟩ := l18New_is (m := m) (h1.le (by omega))
    rw [e2]; exact ⟨_, _, rfl, h2⟩
  · rename_i hz
    have hp : 0 < l.length := by
      rcases Nat.eq_zero_or_pos l.length with a | a
      · exact absurd (by simp [a]) hz
      · exact a
    obtain ⟨u, s2, e2, u0, u1, _, h2⟩ := pick_is (m := m + 500) (h1.le (by omega)) (n := (l.length : Int)) (by omega)
    rw [e2, Option.bind_some]
    simp only
    rw [ixOk_of u0 (u1 (by omega)), ck_true]
    exact ⟨_, _, rfl, h2.le (by omega)⟩

theorem DrawMatch_is {c : List UInt8} (h : c.length ≤ 1099511627776) : ∃ r f, spec_DrawMatchesRule c = some (r, f) := by
  unfold spec_DrawMatchesRule
  obtain ⟨x, s1, e1, h1⟩ := l18Other_is (m := 10000) ((srcN_from h).le (by omega))
  obtain ⟨f, s2, e2⟩ := l18Facts_draw (m := 1000) (h1.le (by omega))
  rw [From_is, Option.bind_some, e1, Option.bind_some]
  simp only
  rw [e2]
  exact ⟨_, _, rfl⟩

theorem DrawText_is {c : List UInt8} (h : c.length ≤ 1099511627776) : ∃ r, spec_DrawRuleText c = some r := by
  unfold spec_DrawRuleText
  obtain ⟨x, s1, e1, h1⟩ := l18Other_is (m := 10000) ((srcN_from h).le (by omega))
  rw [From_is, Option.bind_some, e1]
  exact ⟨_, rfl⟩

theorem DrawMove_is {c : List UInt8} (h : c.length ≤ 1099511627776) : ∃ l a b, spec_DrawMoveRule c = some (l, a, b) ∧ l.length ≤ 14 := by
  unfold spec_DrawMoveRule
  obtain ⟨l, a, b, e, hl⟩ := l18Two_is h
  rw [e]; exact ⟨_, _, _, rfl, hl⟩

theorem DrawRead_is {c : List UInt8} (h : c.length ≤ 1099511627776) : ∃ t, spec_DrawReadRule c = some t ∧ t.length ≤ 1048576 := by
  unfold spec_DrawReadRule
  obtain ⟨x, s1, e1, hx, h1⟩ := l18New_good (m := 10000) ((srcN_from h).le (by omega))
  have ht := text_len hx
  obtain ⟨b, s2, e2, h2⟩ := one_is (m := 9000) (h1.le (by omega)) (n := 3) (by omega)
  rw [From_is, Option.bind_some, e1, Option.bind_some]
  simp only
  rw [l18Text_is hx, Option.bind_some, e2, Option.bind_some]
  simp only
  split
  · obtain ⟨y, s3, e3, hy⟩ := l01Spoil_is (m := 100) (h2.le (by omega)) (t := textRu x) (by omega)
    rw [e3]; exact ⟨_, rfl, by show y.length ≤ _; omega⟩
  · exact ⟨_, rfl, by omega⟩

theorem DrawSame_is {c : List UInt8} (h : c.length ≤ 1099511627776) : ∃ a b, spec_DrawSameRules c = some (a, b) ∧ a.length ≤ 14 := by
  unfold spec_DrawSameRules
  obtain ⟨l, s1, e1, hl, h1⟩ := l18Bent_is (m := 10000) ((srcN_from h).le (by omega))
  rw [From_is, Option.bind_some, e1, Option.bind_some]
  simp only [List.nil_append]
  rw [appOk_of (by simp; omega), ck_true]
  split
  · rename_i hp
    have hp : 0 < l.length := by simpa using hp
    obtain ⟨b, s2, e2, h2⟩ := one_is (m := 9000) (h1.le (by omega)) (n := 2) (by omega)
    rw [e2, Option.bind_some]
    simp only
    split
    · obtain ⟨u, s3, e3, u0, u1, _, h3⟩ := pick_is (m := 8000) (h2.le (by omega)) (n := 2) (by omega)
      obtain ⟨d, s4, e4, h4⟩ := one_is (m := 7000) (h3.le (by omega)) (n := 5) (by omega)
      rw [ixOk_of (by omega) (by omega), ck_true, e3, Option.bind_some]
      simp only
      rw [e4, Option.bind_some]
      simp only
      split
      · rw [appOk_of (by simp; omega), ck_true]; exact ⟨_, _, rfl, hl⟩
      · exact ⟨_, _, rfl, hl⟩
    · obtain ⟨d, s4, e4, h4⟩ := one_is (m := 7000) (h2.le (by omega)) (n := 5) (by omega)
      rw [e4, Option.bind_some]
      simp only
      split
      · rw [appOk_of (by simp; omega), ck_true]; exact ⟨_, _, rfl, hl⟩
      · exact ⟨_, _, rfl, hl⟩
  · obtain ⟨d, s4, e4, h4⟩ := one_is (m := 7000) (h1.le (by omega)) (n := 5) (by omega)
    rw [e4, Option.bind_some]
    simp only
    split
    · rw [appOk_of (by simp; omega), ck_true]; exact ⟨_, _, rfl, hl⟩
    · exact ⟨_, _, rfl, hl⟩

/-! ### Equal lists -/

theorem eqRu (x y : Rule) : ((x.Class == y.Class) && ((x.FromAmp == y.FromAmp) && ((x.ToAmp == y.ToAmp) && ((x.FromPer == y.FromPer) && ((x.ToPer == y.ToPer) && (x.Shape == y.Shape)))))) = (x == y) := by
  rw [Bool.eq_iff_iff]
  cases x; cases y
  simp [Rule.mk.injEq]

theorem SameRu_is {a b : List Rule} (h : a.length ≤ 1000000) : spec_SameRules a b = some (decide (a = b)) := by
  unfold spec_SameRules
  by_cases hl : a.length = b.length
  · have e : (!((a.length : Int) == (b.length : Int))) = false := by simp [hl]
    rw [e]
    simp only [Bool.false_eq_true, if_false]
    rw [while_all (step := spec_SameRules_l1 a b) (fun i => a.getD i default == b.getD i default) a.length (decide (a = b)) (yes := .inl ()) (no := .inr false) (by
      rw [decide_eq_true_eq]; exact (getD_eq_iff hl).symm) (fun i hi => by
      simp only [spec_SameRules_l1, Int.ofNat_lt, hi, decide_true, if_true, ixOk_nat, ck_true, Int.toNat_natCast, wrap_nat1 (show i < 9223372036854775807 by omega), show i < b.length by omega, eqRu]
      cases (a.getD i default == b.getD i default) <;> rfl) (by simp [spec_SameRules_l1])]
    by_cases hab : a = b
    · simp [hab]
    · simp [hab]
  · have e : (!((a.length : Int) == (b.length : Int))) = true := by
      simp; omega
    rw [e]
    have : a ≠ b := fun c => hl (by rw [c])
    simp [this]

theorem SameRu_impl {a b : List Rule} (h : a.length ≤ 1000000) : impl_SameRules a b = some (decide (a = b)) := by
  rw [← SameRu_is h]
  unfold impl_SameRules slices_Equal_impl_Rule_impl_Rule spec_SameRules
  have e : slices_Equal_impl_Rule_impl_Rule_l1 a b (a.length : Int) = spec_SameRules_l1 a b := id rfl
  rw [e]
  split
  · rfl
  · cases whileE (spec_SameRules_l1 a b) 0 with
    | none => rfl
    | some y => cases y <;> rfl

theorem f6ints_refl {l : List Int} (hl : l.length ≤ 1000000) : laws_f6ints l l = some true := by
  unfold laws_f6ints
  rw [if_neg (by simp), while_all (step := laws_f6ints_l1 l l) (fun _ => true) l.length true (yes := .inl ()) (no := .inr false) (by simp) (fun i hi => by
    simp only [laws_f6ints_l1, Int.ofNat_lt, hi, decide_true, if_true, ixOk_nat, ck_true, Int.toNat_natCast, wrap_nat1 (show i < 9223372036854775807 by omega), beq_self_eq_true, Bool.not_true, Bool.false_eq_true, if_false]) (by simp [laws_f6ints_l1])]
  rfl

/-! ### The class -/

def clsR (l : List Rule) (f : Facts) : List UInt8 × Int := if validRu l = true then (if factsB f = true then (if firstI l f < 0 then ([], 3) else ((l.getD (firstI l f).toNat default).Class, 0)) else ([], 2)) else ([], 1)

theorem firstI_lt {l : List Rule} {f : Facts} (h : ¬ firstI l f < 0) : (firstI l f).toNat < l.length := by
  unfold firstI at h ⊢
  cases hf : firstR l f with
  | none => rw [hf] at h; simp at h
  | some j =>
    unfold firstR at hf
    have := List.mem_of_find?_eq_some hf
    simpa using this

theorem ClassOf_impl {l : List Rule} (hl : l.length ≤ 1000000) (f : Facts) : impl_ClassOf l f = some (clsR l f) := by
  unfold impl_ClassOf clsR
  rw [ValidRules_is hl, Option.bind_some]
  cases hv : validRu l
  · rfl
  · rw [areFacts_is]
    simp only [Bool.not_true, Bool.false_eq_true, if_false, if_true, Option.bind_some]
    cases factsB f
    · rfl
    · simp only [Bool.not_true, Bool.false_eq_true, if_false, if_true]
      rw [first_is hl, Option.bind_some]
      by_cases h : firstI l f < 0
      · rw [if_pos h, if_pos (by simpa using h)]
      · have := firstI_lt h
        rw [if_neg h, if_neg (by simpa using h), ixOk_of (by omega) (by omega), ck_true]

theorem ClassOf_spec {l : List Rule} (hl : l.length ≤ 1000000) (f : Facts) : spec_ClassOf l f = some (clsR l f) := by
  unfold spec_ClassOf clsR spec_l18Code
  rw [l18Ok_is hl, Option.bind_some]
  cases hv : validRu l
  · rfl
  · rw [l18Facts_is]
    simp only [Bool.not_true, Bool.false_eq_true, if_false, if_true, Option.bind_some]
    cases factsB f
    · rfl
    · simp only [Bool.not_true, Bool.false_eq_true, if_false, if_true, Option.bind_some, beq_self_eq_true]
      rw [l18First_is hl, Option.bind_some]
      by_cases h : firstI l f < 0
      · rw [if_pos h, if_pos (by simpa using h)]
      · have := firstI_lt h
        rw [if_neg h, if_neg (by simpa using h), ixOk_of (by omega) (by omega), ck_true]

def matR (r : Rule) (f : Facts) : Bool × Int := if oneRu r = true then (if factsB f = true then (matchB r f, 0) else (false, 2)) else (false, 1)

theorem Matches_impl (r : Rule) (f : Facts) : impl_MatchesRule r f = some (matR r f) := by
  unfold impl_MatchesRule matR
  rw [isRule_is, Option.bind_some, areFacts_is, matches_is]
  cases oneRu r
  · rfl
  · cases factsB f <;> rfl

theorem Matches_spec (r : Rule) (f : Facts) : spec_MatchesRule r f = some (matR r f) := by
  unfold spec_MatchesRule matR
  rw [l18One_is, Option.bind_some, l18Facts_is, l18Match_is]
  cases oneRu r
  · rfl
  · cases factsB f <;> rfl

/-! ### Hits -/

theorem head_get {l : List Int} {x : Int} (h : l.head? = some x) : l.getD 0 default = x := by
  cases l with
  | nil => cases h
  | cons a r => cases h; rfl

theorem firstI_some {l : List Rule} {f : Facts} (h : 0 < (hitsR l f).length) : (hitsR l f).getD 0 default = firstI l f ∧ ∃ j : Nat, firstR l f = some j := by
  have e := hitsR_head l f
  cases hf : firstR l f with
  | none =>
    rw [hf] at e
    cases hh : hitsR l f with
    | nil => rw [hh] at h; simp at h
    | cons a r => rw [hh] at e; cases e
  | some j =>
    rw [hf] at e
    refine ⟨?_, j, rfl⟩
    rw [head_get e]
    unfold firstI
    rw [hf]

theorem firstI_neg {l : List Rule} {f : Facts} (h : firstI l f = -1) : hitsR l f = [] := by
  unfold firstI at h
  cases hf : firstR l f with
  | none =>
    have e := hitsR_head l f
    rw [hf] at e
    cases hh : hitsR l f with
    | nil => rfl
    | cons a r => rw [hh] at e; cases e
  | some j => rw [hf] at h; simp only at h; omega

theorem hits_pos {l : List Rule} {f : Facts} {j : Nat} (h : firstR l f = some j) : 0 < (hitsR l f).length ∧ (hitsR l f).getD 0 default = (j : Int) := by
  have e := hitsR_head l f
  rw [h] at e
  refine ⟨?_, head_get e⟩
  cases hh : hitsR l f with
  | nil => rw [hh] at e; cases e
  | cons a r => simp

/-! ### A rule is moved -/

def inLR (l : List Rule) (a : Int) : Bool := decide (0 ≤ a) && decide (a ≤ (l.length : Int) - 1)
def restR (l : List Rule) (a : Nat) : List Rule := l.take a ++ l.drop (a + 1)
def movR (l : List Rule) (a b : Nat) : List Rule := (restR l a).take b ++ (l.getD a default :: (restR l a).drop b)

theorem restR_len {l : List Rule} {a : Nat} (h : a < l.length) : (restR l a).length = l.length - 1 := by unfold restR; simp; omega
theorem movR_len {l : List Rule} {a b : Nat} (ha : a < l.length) (hb : b < l.length) : (movR l a b).length = l.length := by
  have := restR_len ha
  unfold movR; simp; omega

theorem rest_mem {l : List Rule} {a : Nat} {x : Rule} (h : x ∈ restR l a) : x ∈ l := by
  unfold restR at h
  rcases List.mem_append.1 h with h | h
  · exact List.mem_of_mem_take h
  · exact List.mem_of_mem_drop h

theorem mov_mem {l : List Rule} {a b : Nat} (ha : a < l.length) {x : Rule} (h : x ∈ movR l a b) : x ∈ l := by
  unfold movR at h
  rcases List.mem_append.1 h with h | h
  · exact rest_mem (List.mem_of_mem_take h)
  · rcases List.mem_cons.1 h with h | h
    · rw [h]; exact getD_mem ha default
    · exact rest_mem (List.mem_of_mem_drop h)

theorem mov_valid {l : List Rule} {a b : Nat} (ha : a < l.length) (hb : b < l.length) (h : validRu l = true) : validRu (movR l a b) = true := by
  unfold validRu at h ⊢
  simp only [Bool.and_eq_true, decide_eq_true_eq, List.all_eq_true] at h ⊢
  exact ⟨by rw [movR_len ha hb]; exact h.1, fun x hx => h.2 x (mov_mem ha hx)⟩

theorem mov_back {l : List Rule} {a b : Nat} (ha : a < l.length) (hb : b < l.length) : movR (movR l a b) b a = l := by
  have hr := restR_len ha
  have ht : ((restR l a).take b).length = b := by rw [List.length_take]; omega
  have e1 : (movR l a b).getD b default = l.getD a default := by
    unfold movR
    rw [List.getD_eq_getElem?_getD, List.getElem?_append_right (by omega), ht, Nat.sub_self]; rfl
  have e2 : restR (movR l a b) b = restR l a := by
    have t : (movR l a b).take b = (restR l a).take b := by
      unfold movR
      rw [List.take_append_of_le_length (by omega), List.take_take, Nat.min_self]
    have d : (movR l a b).drop (b + 1) = (restR l a).drop b := by
      unfold movR
      rw [List.drop_append, ht, List.drop_of_length_le (by omega), show b + 1 - b = 1 by omega]; rfl
    unfold restR at t d ⊢
    rw [t, d, List.take_append_drop]
  unfold movR at e1 e2 ⊢
  rw [e1, e2]
  have hta : (l.take a).length = a := by rw [List.length_take]; omega
  have t : (restR l a).take a = l.take a := by
    unfold restR
    rw [List.take_append_of_le_length (by omega), List.take_take, Nat.min_self]
  have d : (restR l a).drop a = l.drop (a + 1) := by
    unfold restR
    rw [List.drop_append, hta, List.drop_of_length_le (by omega), Nat.sub_self]; rfl
  rw [t, d, getD_lt ha, List.getElem_cons_drop, List.take_append_drop]

theorem copyRu_is {l : List Rule} (hl : l.length ≤ 1000000) : impl_copyOf_impl_Rule l = some l := by
  unfold impl_copyOf_impl_Rule
  rw [appOk_of (by simp; omega), ck_true]; rfl

theorem in_nat {l : List Rule} {a : Int} (h : inLR l a = true) : ∃ k : Nat, a = k ∧ k < l.length := by
  unfold inLR at h
  simp only [Bool.and_eq_true, decide_eq_true_eq] at h
  exact ⟨a.toNat, by omega, by omega⟩

theorem in_of {l : List Rule} {k : Nat} (h : k < l.length) : inLR l (k : Int) = true := by
  unfold inLR
  simp only [Bool.and_eq_true, decide_eq_true_eq]
  omega

theorem Move_impl {l : List Rule} (hl : l.length ≤ 1000) {a b : Nat} (ha : a < l.length) (hb : b < l.length) (hv : validRu l = true) : impl_MoveRule l (a : Int) (b : Int) = some (movR l a b, 0) := by
  unfold impl_MoveRule impl_count_impl_Rule
  rw [ValidRules_is (by omega), Option.bind_some, hv]
  have w : IntKind.i64.wrap ((l.length : Int) - 1) = (l.length : Int) - 1 := wrap_i64 (by omega) (by omega)
  simp only [Bool.not_true, Bool.false_eq_true, if_false, if_true, Option.bind_some, w, impl_in_is, Option.isSome_some, Option.getD_some, Bool.or_true, ck_true]
  have e1 : (decide (0 ≤ (a : Int)) && decide ((a : Int) ≤ (l.length : Int) - 1)) = true := in_of ha
  have e2 : (decide (0 ≤ (b : Int)) && decide ((b : Int) ≤ (l.length : Int) - 1)) = true := in_of hb
  rw [e1, e2, if_neg (by simp), ixOk_of (by omega) (by omega), ck_true, copyRu_is (by omega), Option.bind_some, wrap_nat1 (by omega)]
  have hr := restR_len ha
  have d : hDel l (a : Int) ((a + 1 : Nat) : Int) = some (restR l a) := by
    unfold hDel delOk
    rw [if_pos (by simp; omega)]; rfl
  have i : hIns 56 (restR l a) (b : Int) [l.getD a default] = some (movR l a b) := by
    unfold hIns insOk
    rw [if_pos (by simp; omega)]; rfl
  rw [d, Option.bind_some, Int.toNat_natCast, i]; rfl

theorem Move_spec {l : List Rule} (hl : l.length ≤ 1000) {a b : Nat} (ha : a < l.length) (hb : b < l.length) (hv : validRu l = true) : spec_MoveRule l (a : Int) (b : Int) = some (movR l a b, 0) := by
  unfold spec_MoveRule
  rw [l18Ok_is (by omega), Option.bind_some, hv]
  have w : IntKind.i64.wrap ((l.length : Int) - 1) = (l.length : Int) - 1 := wrap_i64 (by omega) (by omega)
  simp only [Bool.not_true, Bool.false_eq_true, if_false, if_true, Option.bind_some, w, spec_l00In_is, Option.isSome_some, Option.getD_some, Bool.or_true, ck_true]
  have e1 : (decide (0 ≤ (a : Int)) && decide ((a : Int) ≤ (l.length : Int) - 1)) = true := in_of ha
  have e2 : (decide (0 ≤ (b : Int)) && decide ((b : Int) ≤ (l.length : Int) - 1)) = true := in_of hb
  have hr := restR_len ha
  have c1 : cut l 0 (a : Int) = l.take a := by simp [cut]
  have c2 : cut l ((a + 1 : Nat) : Int) (l.length : Int) = l.drop (a + 1) := by unfold cut; rw [Int.toNat_natCast, Int.toNat_natCast, List.take_length]
  have c3 : ([] ++ l.take a) ++ l.drop (a + 1) = restR l a := rfl
  have c4 : cut (restR l a) 0 (b : Int) = (restR l a).take b := by simp [cut]
  have c5 : cut (restR l a) (b : Int) ((restR l a).length : Int) = (restR l a).drop b := by unfold cut; rw [Int.toNat_natCast, Int.toNat_natCast, List.take_length]
  rw [e1, e2, if_neg (by simp), wrap_nat1 (by omega), c1, c2, c3, c4, c5, cutOk_of (by omega) (by omega) (by omega), ck_true, appOk_of (by simp; omega), ck_true, cutOk_of (by omega) (by omega) (by omega), ck_true, appOk_of (by simp; omega), ck_true, cutOk_of (by omega) (by omega) (by omega), ck_true, appOk_of (by simp; omega), ck_true, ixOk_of (by omega) (by omega), ck_true, appOk_of (by simp; omega), ck_true, cutOk_of (by omega) (by omega) (by omega), ck_true, appOk_of (by simp; omega), ck_true, Int.toNat_natCast]
  congr 2
  unfold movR
  simp

theorem Move_no {l : List Rule} (hl : l.length ≤ 1000) (a b : Int) (h : ¬ (validRu l = true ∧ inLR l a = true ∧ inLR l b = true)) : ∃ c, c ≠ 0 ∧ impl_MoveRule l a b = some ([], c) ∧ spec_MoveRule l a b = some ([], c) := by
  unfold impl_MoveRule spec_MoveRule impl_count_impl_Rule
  rw [ValidRules_is (by omega), l18Ok_is (by omega), Option.bind_some, Option.bind_some]
  cases hv : validRu l
  · exact ⟨1, by decide, rfl, rfl⟩
  · have w : IntKind.i64.wrap ((l.length : Int) - 1) = (l.length : Int) - 1 := wrap_i64 (by omega) (by omega)
    simp only [Bool.not_true, Bool.false_eq_true, if_false, if_true, Option.bind_some, w, impl_in_is, spec_l00In_is, Option.isSome_some, Option.getD_some, Bool.or_true, ck_true]
    have e1 : (decide (0 ≤ a) && decide (a ≤ (l.length : Int) - 1)) = inLR l a := rfl
    have e2 : (decide (0 ≤ b) && decide (b ≤ (l.length : Int) - 1)) = inLR l b := rfl
    have hc : ((!(inLR l a)) || (!(inLR l b))) = true := by
      cases ha : inLR l a
      · rfl
      · cases hb : inLR l b
        · rfl
        · exact absurd ⟨hv, ha, hb⟩ h
    rw [e1, e2, hc]
    exact ⟨2, by decide, rfl, rfl⟩

theorem Move_same {l : List Rule} (hl : l.length ≤ 1000) (a b : Int) : ∃ y c, y.length ≤ 1000 ∧ impl_MoveRule l a b = some (y, c) ∧ spec_MoveRule l a b = some (y, c) ∧ (c = 0 → impl_MoveRule y b a = some (l, 0)) := by
  by_cases h : validRu l = true ∧ inLR l a = true ∧ inLR l b = true
  · obtain ⟨hv, ha, hb⟩ := h
    obtain ⟨i, rfl, hi⟩ := in_nat ha
    obtain ⟨j, rfl, hj⟩ := in_nat hb
    have hlen := movR_len hi hj
    refine ⟨_, _, by omega, Move_impl hl hi hj hv, Move_spec hl hi hj hv, fun _ => ?_⟩
    rw [Move_impl (by omega) (by omega) (by omega) (mov_valid hi hj hv), mov_back hi hj]
  · obtain ⟨c, h0, h1, h2⟩ := Move_no hl a b h
    exact ⟨[], c, by simp, h1, h2, fun e => absurd e h0⟩

end Go.Proofs.YtelkmhdolnjnpaaGreatDoor
