/- The plain law of FnReached. No condition. -/
import Derived.Test.YtlnpnpjkpkdoeaaHRuleF
import Derived.Test.YtlnpnpjkpkdoeaaHPC
namespace Go.Proofs.Ytlnpnpjkpkdoeaa
open Go Go.RowKit
set_option linter.unusedSimpArgs false
set_option linter.unusedVariables false

/-! ### Draws -/

theorem l18New_is {m : Nat} {s : L00Src} (h : SrcN (m + 20) s) : ∃ x s', spec_l18New s = some (x, s') ∧ SrcN m s' := by
  unfold spec_l18New
  obtain ⟨n, s1, e1, _, h1⟩ := text_is (m := m + 18) h (l := [([99, 101, 112, 104, 101, 105, 100] : List UInt8), ([109, 105, 114, 97] : List UInt8), ([101, 99, 108, 105, 112, 115, 105, 110, 103] : List UInt8), ([114, 114, 45, 108, 121, 114, 97, 101] : List UInt8)]) (by simp) (by simp)
  obtain ⟨a, s2, e2, _, _, _, h2⟩ := pick_is (m := m + 16) h1 (n := 4) (by omega)
  obtain ⟨b, s3, e3, _, _, _, h3⟩ := pick_is (m := m + 14) h2 (n := 5) (by omega)
  obtain ⟨c, s4, e4, _, _, _, h4⟩ := pick_is (m := m + 12) h3 (n := 4) (by omega)
  obtain ⟨d, s5, e5, _, _, _, h5⟩ := pick_is (m := m + 10) h4 (n := 5) (by omega)
  obtain ⟨e, s6, e6, _, _, _, h6⟩ := pick_is (m := m + 8) h5 (n := 4) (by omega)
  rw [e1, Option.bind_some, e2, Option.bind_some, e3, Option.bind_some, e4, Option.bind_some, e5, Option.bind_some, e6]
  exact ⟨_, _, rfl, h6.le (by omega)⟩

theorem bentRu_loop {step : L00Src × List Rule × Int → Option ((L00Src × List Rule × Int) ⊕ (L00Src × List Rule))}
    (hs : ∀ (s : L00Src) (l : List Rule) (k : Int) , step (s, l, k) = if (decide (0 < k)) then (spec_l18New s).bind fun y_6 => ck (appOk (l.length + ([y_6.1] : List Rule).length) 56) <| some (.inl (y_6.2, (l ++ ([y_6.1] : List Rule)), (IntKind.i64.wrap (k - 1)))) else some (.inr (s, l)))
    {m : Nat} {s : L00Src} {n : Int} (h0 : 0 ≤ n) (h1 : n ≤ 13) (h : SrcN (m + 300) s) : ∃ l s', whileE step (s, ([] : List Rule), n) = some (s', l) ∧ l.length ≤ 13 ∧ SrcN m s' := by
  obtain ⟨y, hy, hq⟩ := while_post (step := step) (fun x => 0 ≤ x.2.2 ∧ (x.2.1.length : Int) + x.2.2 ≤ 13 ∧ SrcN (m + 20 * x.2.2.toNat) x.1) (fun y => y.2.length ≤ 13 ∧ SrcN m y.1) (fun x => x.2.2.toNat) (by
    rintro ⟨s, l, k⟩ ⟨k0, k1, hk⟩
    simp only at k0 k1 hk
    rw [hs]
    by_cases c : 0 < k
    · left
      obtain ⟨x, s', e, h'⟩ := l18New_is (m := m + 20 * (k - 1).toNat) (hk.le (by omega))
      simp only [c, decide_true, if_true, e, Option.bind_some]
      rw [appOk_of (by simp; omega), ck_true, wrap_i64 (n := k - 1) (by omega) (by omega)]
      exact ⟨_, rfl, ⟨by show 0 ≤ k - 1; omega, by show ((l ++ [_]).length : Int) + (k - 1) ≤ 13; simp; omega, h'⟩, by show (k - 1).toNat < k.toNat; omega⟩
    · right
      exact ⟨(s, l), by simp [c], by show l.length ≤ 13; omega, hk.le (by omega)⟩) (s := (s, ([] : List Rule), n)) ⟨h0, by simp; omega, h.le (by show m + 20 * n.toNat ≤ m + 300; omega)⟩
  exact ⟨y.2, y.1, hy, hq.1, hq.2⟩

theorem bentRu_tail {m : Nat} {s : L00Src} (h : SrcN (m + 40) s) {l : List Rule} (hl : l.length ≤ 14) : ∃ l' s', (
    if ((l.length : Int) == 0) then
      some (l, s)
    else
      (spec_l00Src_pick s (l.length : Int)).bind fun y_62 =>
      ck (ixOk y_62.1 l.length) <|
      (spec_l00Src_pick y_62.2 30).bind fun y_64 =>
      if (y_64.1 == 0) then
        (spec_l00Src_text y_64.2 ([([] : List UInt8), ([77, 105, 114, 97] : List UInt8), ([109] : List UInt8)] : List (List UInt8))).bind fun y_66 =>
        some ((l.set y_62.1.toNat (Rule.mk y_66.1 ((l.getD y_62.1.toNat default).FromAmp) ((l.getD y_62.1.toNat default).ToAmp) ((l.getD y_62.1.toNat default).FromPer) ((l.getD y_62.1.toNat default).ToPer) ((l.getD y_62.1.toNat default).Shape))), y_66.2)
      else
        if (y_64.1 == 1) then
          (spec_l00Src_among y_64.2 ([(-1), 0, (l.getD y_62.1.toNat default).ToAmp, (IntKind.i64.wrap (((l.getD y_62.1.toNat default).ToAmp) + 1))] : List Int)).bind fun y_68 =>
          some ((l.set y_62.1.toNat (Rule.mk ((l.getD y_62.1.toNat default).Class) y_68.1 ((l.getD y_62.1.toNat default).ToAmp) ((l.getD y_62.1.toNat default).FromPer) ((l.getD y_62.1.toNat default).ToPer) ((l.getD y_62.1.toNat default).Shape))), y_68.2)
        else
          if (y_64.1 == 2) then
            (spec_l00Src_among y_64.2 ([20000, 20001, (-9223372036854775808)] : List Int)).bind fun y_70 =>
            some ((l.set y_62.1.toNat (Rule.mk ((l.getD y_62.1.toNat default).Class) ((l.getD y_62.1.toNat default).FromAmp) y_70.1 ((l.getD y_62.1.toNat default).FromPer) ((l.getD y_62.1.toNat default).ToPer) ((l.getD y_62.1.toNat default).Shape))), y_70.2)
          else
            if (y_64.1 == 3) then
              (spec_l00Src_among y_64.2 ([1000000, 1000001, 9223372036854775807] : List Int)).bind fun y_72 =>
              some ((l.set y_62.1.toNat (Rule.mk ((l.getD y_62.1.toNat default).Class) ((l.getD y_62.1.toNat default).FromAmp) ((l.getD y_62.1.toNat default).ToAmp) ((l.getD y_62.1.toNat default).FromPer) y_72.1 ((l.getD y_62.1.toNat default).Shape))), y_72.2)
            else
              if (y_64.1 == 4) then
                (spec_l00Src_among y_64.2 ([(-1), 0, 3, 4] : List Int)).bind fun y_74 =>
                some ((l.set y_62.1.toNat (Rule.mk ((l.getD y_62.1.toNat default).Class) ((l.getD y_62.1.toNat default).FromAmp) ((l.getD y_62.1.toNat default).ToAmp) ((l.getD y_62.1.toNat default).FromPer) ((l.getD y_62.1.toNat default).ToPer) y_74.1)), y_74.2)
              else
                some (l, y_64.2)) = some (l', s') ∧ l'.length ≤ 14 ∧ SrcN m s' := by
  split
  · exact ⟨_, _, rfl, hl, h.le (by omega)⟩
  · rename_i hz
    have hp : 0 < l.length := by
      rcases Nat.eq_zero_or_pos l.length with a | a
      · exact absurd (by simp [a]) hz
      · exact a
    obtain ⟨u, s1, e1, u0, u1, _, h1⟩ := pick_is (m := m + 38) h (n := (l.length : Int)) (by omega)
    have u2 := u1 (by omega)
    obtain ⟨v, s2, e2, _, _, _, h2⟩ := pick_is (m := m + 36) h1 (n := 30) (by omega)
    rw [e1, Option.bind_some]
    simp only
    rw [ixOk_of u0 u2, ck_true, e2, Option.bind_some]
    simp only
    split
    · obtain ⟨x, s3, e3, _, h3⟩ := text_is (m := m + 30) (h2.le (by omega)) (l := [([] : List UInt8), ([77, 105, 114, 97] : List UInt8), ([109] : List UInt8)]) (by simp) (by simp)
      rw [e3]; exact ⟨_, _, rfl, by simp only [List.length_set]; exact hl, h3.le (by omega)⟩
    · split
      · obtain ⟨x, s3, e3, _, h3⟩ := among_is (m := m + 30) (h2.le (by omega)) (l := [(-1), 0, (l.getD u.toNat default).ToAmp, (IntKind.i64.wrap (((l.getD u.toNat default).ToAmp) + 1))]) (by simp) (by simp)
        rw [e3]; exact ⟨_, _, rfl, by simp only [List.length_set]; exact hl, h3.le (by omega)⟩
      · split
        · obtain ⟨x, s3, e3, _, h3⟩ := among_is (m := m + 30) (h2.le (by omega)) (l := [20000, 20001, (-9223372036854775808)]) (by simp) (by simp)
          rw [e3]; exact ⟨_, _, rfl, by simp only [List.length_set]; exact hl, h3.le (by omega)⟩
        · split
          · obtain ⟨x, s3, e3, _, h3⟩ := among_is (m := m + 30) (h2.le (by omega)) (l := [1000000, 1000001, 9223372036854775807]) (by simp) (by simp)
            rw [e3]; exact ⟨_, _, rfl, by simp only [List.length_set]; exact hl, h3.le (by omega)⟩
          · split
            · obtain ⟨x, s3, e3, _, h3⟩ := among_is (m := m + 30) (h2.le (by omega)) (l := [(-1), 0, 3, 4]) (by simp) (by simp)
              rw [e3]; exact ⟨_, _, rfl, by simp only [List.length_set]; exact hl, h3.le (by omega)⟩
            · exact ⟨_, _, rfl, hl, h2.le (by omega)⟩

theorem bentRu_mid {m : Nat} {s : L00Src} (h : SrcN (m + 90) s) {l : List Rule} (hl : l.length ≤ 13) : ∃ l' s', (
    (spec_l00Src_one s 4).bind fun y_44 =>
    if y_44.1 then
      ck (appOk (l.length + ([(Rule.mk ([114, 101, 115, 116] : List UInt8) 0 20000 0 1000000 0)] : List Rule).length) 56) <|
      if (((l ++ ([(Rule.mk ([114, 101, 115, 116] : List UInt8) 0 20000 0 1000000 0)] : List Rule)).length : Int) == 0) then
        some ((l ++ ([(Rule.mk ([114, 101, 115, 116] : List UInt8) 0 20000 0 1000000 0)] : List Rule)), y_44.2)
      else
        (spec_l00Src_pick y_44.2 ((l ++ ([(Rule.mk ([114, 101, 115, 116] : List UInt8) 0 20000 0 1000000 0)] : List Rule)).length : Int)).bind fun y_48 =>
        ck (ixOk y_48.1 ((l ++ ([(Rule.mk ([114, 101, 115, 116] : List UInt8) 0 20000 0 1000000 0)] : List Rule)).length)) <|
        (spec_l00Src_pick y_48.2 30).bind fun y_50 =>
        if (y_50.1 == 0) then
          (spec_l00Src_text y_50.2 ([([] : List UInt8), ([77, 105, 114, 97] : List UInt8), ([109] : List UInt8)] : List (List UInt8))).bind fun y_52 =>
          some (((l ++ ([(Rule.mk ([114, 101, 115, 116] : List UInt8) 0 20000 0 1000000 0)] : List Rule)).set y_48.1.toNat (Rule.mk y_52.1 (((l ++ ([(Rule.mk ([114, 101, 115, 116] : List UInt8) 0 20000 0 1000000 0)] : List Rule)).getD y_48.1.toNat default).FromAmp) (((l ++ ([(Rule.mk ([114, 101, 115, 116] : List UInt8) 0 20000 0 1000000 0)] : List Rule)).getD y_48.1.toNat default).ToAmp) (((l ++ ([(Rule.mk ([114, 101, 115, 116] : List UInt8) 0 20000 0 1000000 0)] : List Rule)).getD y_48.1.toNat default).FromPer) (((l ++ ([(Rule.mk ([114, 101, 115, 116] : List UInt8) 0 20000 0 1000000 0)] : List Rule)).getD y_48.1.toNat default).ToPer) (((l ++ ([(Rule.mk ([114, 101, 115, 116] : List UInt8) 0 20000 0 1000000 0)] : List Rule)).getD y_48.1.toNat default).Shape))), y_52.2)
        else
          if (y_50.1 == 1) then
            (spec_l00Src_among y_50.2 ([(-1), 0, ((l ++ ([(Rule.mk ([114, 101, 115, 116] : List UInt8) 0 20000 0 1000000 0)] : List Rule)).getD y_48.1.toNat default).ToAmp, (IntKind.i64.wrap ((((l ++ ([(Rule.mk ([114, 101, 115, 116] : List UInt8) 0 20000 0 1000000 0)] : List Rule)).getD y_48.1.toNat default).ToAmp) + 1))] : List Int)).bind fun y_54 =>
            some (((l ++ ([(Rule.mk ([114, 101, 115, 116] : List UInt8) 0 20000 0 1000000 0)] : List Rule)).set y_48.1.toNat (Rule.mk (((l ++ ([(Rule.mk ([114, 101, 115, 116] : List UInt8) 0 20000 0 1000000 0)] : List Rule)).getD y_48.1.toNat default).Class) y_54.1 (((l ++ ([(Rule.mk ([114, 101, 115, 116] : List UInt8) 0 20000 0 1000000 0)] : List Rule)).getD y_48.1.toNat default).ToAmp) (((l ++ ([(Rule.mk ([114, 101, 115, 116] : List UInt8) 0 20000 0 1000000 0)] : List Rule)).getD y_48.1.toNat default).FromPer) (((l ++ ([(Rule.mk ([114, 101, 115, 116] : List UInt8) 0 20000 0 1000000 0)] : List Rule)).getD y_48.1.toNat default).ToPer) (((l ++ ([(Rule.mk ([114, 101, 115, 116] : List UInt8) 0 20000 0 1000000 0)] : List Rule)).getD y_48.1.toNat default).Shape))), y_54.2)
          else
            if (y_50.1 == 2) then
              (spec_l00Src_among y_50.2 ([20000, 20001, (-9223372036854775808)] : List Int)).bind fun y_56 =>
              some (((l ++ ([(Rule.mk ([114, 101, 115, 116] : List UInt8) 0 20000 0 1000000 0)] : List Rule)).set y_48.1.toNat (Rule.mk (((l ++ ([(Rule.mk ([114, 101, 115, 116] : List UInt8) 0 20000 0 1000000 0)] : List Rule)).getD y_48.1.toNat default).Class) (((l ++ ([(Rule.mk ([114, 101, 115, 116] : List UInt8) 0 20000 0 1000000 0)] : List Rule)).getD y_48.1.toNat default).FromAmp) y_56.1 (((l ++ ([(Rule.mk ([114, 101, 115, 116] : List UInt8) 0 20000 0 1000000 0)] : List Rule)).getD y_48.1.toNat default).FromPer) (((l ++ ([(Rule.mk ([114, 101, 115, 116] : List UInt8) 0 20000 0 1000000 0)] : List Rule)).getD y_48.1.toNat default).ToPer) (((l ++ ([(Rule.mk ([114, 101, 115, 116] : List UInt8) 0 20000 0 1000000 0)] : List Rule)).getD y_48.1.toNat default).Shape))), y_56.2)
            else
              if (y_50.1 == 3) then
                (spec_l00Src_among y_50.2 ([1000000, 1000001, 9223372036854775807] : List Int)).bind fun y_58 =>
                some (((l ++ ([(Rule.mk ([114, 101, 115, 116] : List UInt8) 0 20000 0 1000000 0)] : List Rule)).set y_48.1.toNat (Rule.mk (((l ++ ([(Rule.mk ([114, 101, 115, 116] : List UInt8) 0 20000 0 1000000 0)] : List Rule)).getD y_48.1.toNat default).Class) (((l ++ ([(Rule.mk ([114, 101, 115, 116] : List UInt8) 0 20000 0 1000000 0)] : List Rule)).getD y_48.1.toNat default).FromAmp) (((l ++ ([(Rule.mk ([114, 101, 115, 116] : List UInt8) 0 20000 0 1000000 0)] : List Rule)).getD y_48.1.toNat default).ToAmp) (((l ++ ([(Rule.mk ([114, 101, 115, 116] : List UInt8) 0 20000 0 1000000 0)] : List Rule)).getD y_48.1.toNat default).FromPer) y_58.1 (((l ++ ([(Rule.mk ([114, 101, 115, 116] : List UInt8) 0 20000 0 1000000 0)] : List Rule)).getD y_48.1.toNat default).Shape))), y_58.2)
              else
                if (y_50.1 == 4) then
                  (spec_l00Src_among y_50.2 ([(-1), 0, 3, 4] : List Int)).bind fun y_60 =>
                  some (((l ++ ([(Rule.mk ([114, 101, 115, 116] : List UInt8) 0 20000 0 1000000 0)] : List Rule)).set y_48.1.toNat (Rule.mk (((l ++ ([(Rule.mk ([114, 101, 115, 116] : List UInt8) 0 20000 0 1000000 0)] : List Rule)).getD y_48.1.toNat default).Class) (((l ++ ([(Rule.mk ([114, 101, 115, 116] : List UInt8) 0 20000 0 1000000 0)] : List Rule)).getD y_48.1.toNat default).FromAmp) (((l ++ ([(Rule.mk ([114, 101, 115, 116] : List UInt8) 0 20000 0 1000000 0)] : List Rule)).getD y_48.1.toNat default).ToAmp) (((l ++ ([(Rule.mk ([114, 101, 115, 116] : List UInt8) 0 20000 0 1000000 0)] : List Rule)).getD y_48.1.toNat default).FromPer) (((l ++ ([(Rule.mk ([114, 101, 115, 116] : List UInt8) 0 20000 0 1000000 0)] : List Rule)).getD y_48.1.toNat default).ToPer) y_60.1)), y_60.2)
                else
                  some ((l ++ ([(Rule.mk ([114, 101, 115, 116] : List UInt8) 0 20000 0 1000000 0)] : List Rule)), y_50.2)
    else
      if ((l.length : Int) == 0) then
        some (l, y_44.2)
      else
        (spec_l00Src_pick y_44.2 (l.length : Int)).bind fun y_62 =>
        ck (ixOk y_62.1 l.length) <|
        (spec_l00Src_pick y_62.2 30).bind fun y_64 =>
        if (y_64.1 == 0) then
          (spec_l00Src_text y_64.2 ([([] : List UInt8), ([77, 105, 114, 97] : List UInt8), ([109] : List UInt8)] : List (List UInt8))).bind fun y_66 =>
          some ((l.set y_62.1.toNat (Rule.mk y_66.1 ((l.getD y_62.1.toNat default).FromAmp) ((l.getD y_62.1.toNat default).ToAmp) ((l.getD y_62.1.toNat default).FromPer) ((l.getD y_62.1.toNat default).ToPer) ((l.getD y_62.1.toNat default).Shape))), y_66.2)
        else
          if (y_64.1 == 1) then
            (spec_l00Src_among y_64.2 ([(-1), 0, (l.getD y_62.1.toNat default).ToAmp, (IntKind.i64.wrap (((l.getD y_62.1.toNat default).ToAmp) + 1))] : List Int)).bind fun y_68 =>
            some ((l.set y_62.1.toNat (Rule.mk ((l.getD y_62.1.toNat default).Class) y_68.1 ((l.getD y_62.1.toNat default).ToAmp) ((l.getD y_62.1.toNat default).FromPer) ((l.getD y_62.1.toNat default).ToPer) ((l.getD y_62.1.toNat default).Shape))), y_68.2)
          else
            if (y_64.1 == 2) then
              (spec_l00Src_among y_64.2 ([20000, 20001, (-9223372036854775808)] : List Int)).bind fun y_70 =>
              some ((l.set y_62.1.toNat (Rule.mk ((l.getD y_62.1.toNat default).Class) ((l.getD y_62.1.toNat default).FromAmp) y_70.1 ((l.getD y_62.1.toNat default).FromPer) ((l.getD y_62.1.toNat default).ToPer) ((l.getD y_62.1.toNat default).Shape))), y_70.2)
            else
              if (y_64.1 == 3) then
                (spec_l00Src_among y_64.2 ([1000000, 1000001, 9223372036854775807] : List Int)).bind fun y_72 =>
                some ((l.set y_62.1.toNat (Rule.mk ((l.getD y_62.1.toNat default).Class) ((l.getD y_62.1.toNat default).FromAmp) ((l.getD y_62.1.toNat default).ToAmp) ((l.getD y_62.1.toNat default).FromPer) y_72.1 ((l.getD y_62.1.toNat default).Shape))), y_72.2)
              else
                if (y_64.1 == 4) then
                  (spec_l00Src_among y_64.2 ([(-1), 0, 3, 4] : List Int)).bind fun y_74 =>
                  some ((l.set y_62.1.toNat (Rule.mk ((l.getD y_62.1.toNat default).Class) ((l.getD y_62.1.toNat default).FromAmp) ((l.getD y_62.1.toNat default).ToAmp) ((l.getD y_62.1.toNat default).FromPer) ((l.getD y_62.1.toNat default).ToPer) y_74.1)), y_74.2)
                else
                  some (l, y_64.2)) = some (l', s') ∧ l'.length ≤ 14 ∧ SrcN m s' := by
  obtain ⟨v, s5, e5, h5⟩ := one_is (m := m + 80) (h.le (by omega)) (n := 4) (by omega)
  rw [e5, Option.bind_some]
  cases v
  · rw [if_neg (by simp)]
    exact bentRu_tail (h5.le (by omega)) (by omega)
  · rw [if_pos rfl, appOk_of (by simp; omega), ck_true]
    exact bentRu_tail (l := l ++ [_]) (h5.le (by omega)) (by simp; omega)

theorem l18Bent_is {m : Nat} {s : L00Src} (h : SrcN (m + 1000) s) : ∃ l s', spec_l18Bent s = some (l, s') ∧ l.length ≤ 14 ∧ SrcN m s' := by
  unfold spec_l18Bent
  obtain ⟨a, s1, e1, a0, a1, _, h1⟩ := pick_is (m := m + 990) (h.le (by omega)) (n := 7) (by omega)
  have a2 := a1 (by omega)
  obtain ⟨b, s2, e2, h2⟩ := one_is (m := m + 980) (h1.le (by omega)) (n := 24) (by omega)
  rw [e1, Option.bind_some, e2, Option.bind_some]
  cases b
  · obtain ⟨l, s4, e4, hl, h4⟩ := bentRu_loop (step := spec_l18Bent_l2) (fun s l k => id rfl) (m := m + 100) (s := s2) (n := a) (by omega) (by omega) (h2.le (by omega))
    rw [if_neg (by simp), e4, Option.bind_some]
    exact bentRu_mid (h4.le (by omega)) hl
  · obtain ⟨u, s3, e3, u0, u1, _, h3⟩ := pick_is (m := m + 970) (h2.le (by omega)) (n := 2) (by omega)
    have u2 := u1 (by omega)
    obtain ⟨l, s4, e4, hl, h4⟩ := bentRu_loop (step := spec_l18Bent_l1) (fun s l k => id rfl) (m := m + 100) (s := s3) (n := 12 + u) (by omega) (by omega) (h3.le (by omega))
    rw [if_pos rfl, e3, Option.bind_some, wrap_i64 (n := 12 + u) (by omega) (by omega), e4, Option.bind_some]
    exact bentRu_mid (h4.le (by omega)) hl

theorem l18Two_is {c : List UInt8} (h : c.length ≤ 1099511627776) : ∃ l a b, spec_l18Two c = some (l, a, b) ∧ l.length ≤ 14 := by
  unfold spec_l18Two
  obtain ⟨l, s1, e1, hl, h1⟩ := l18Bent_is (m := 10000) ((srcN_from h).le (by omega))
  have w : IntKind.i64.wrap ((l.length : Int) + 1) = (l.length : Int) + 1 := wrap_i64 (by omega) (by omega)
  obtain ⟨a, s2, e2, _, _, _, h2⟩ := pick_is (m := 9000) (h1.le (by omega)) (n := (l.length : Int) + 1) (by omega)
  obtain ⟨b, s3, e3, _, _, _, h3⟩ := pick_is (m := 8000) (h2.le (by omega)) (n := 16) (by omega)
  obtain ⟨d, s4, e4, _, _, _, h4⟩ := pick_is (m := 7000) (h3.le (by omega)) (n := (l.length : Int) + 1) (by omega)
  obtain ⟨e, s5, e5, _, _, _, h5⟩ := pick_is (m := 6000) (h4.le (by omega)) (n := 16) (by omega)
  rw [From_is, Option.bind_some, e1, Option.bind_some]
  simp only [w]
  rw [e2, Option.bind_some, e3, Option.bind_some, nz_of (by omega), ck_true, e4, Option.bind_some, e5]
  exact ⟨_, _, _, rfl, hl⟩

theorem DrawClass_is {c : List UInt8} (h : c.length ≤ 1099511627776) : ∃ l f, spec_DrawClassOf c = some (l, f) ∧ l.length ≤ 14 := by
  unfold spec_DrawClassOf spec_l18Ask spec_l18DrawFacts
  obtain ⟨l, s1, e1, hl, h1⟩ := l18Bent_is (m := 10000) ((srcN_from h).le (by omega))
  obtain ⟨a, s2, e2, _, _, _, h2⟩ := pick_is (m := 9000) (h1.le (by omega)) (n := 14) (by omega)
  obtain ⟨b, s3, e3, _, _, _, h3⟩ := pick_is (m := 8000) (h2.le (by omega)) (n := 16) (by omega)
  obtain ⟨d, s4, e4, _, _, _, h4⟩ := pick_is (m := 7000) (h3.le (by omega)) (n := 3) (by omega)
  obtain ⟨e, s5, e5, _, _, _, h5⟩ := pick_is (m := 6000) (h4.le (by omega)) (n := 16) (by omega)
  rw [From_is, Option.bind_some, e1, Option.bind_some]
  simp only
  rw [e2, Option.bind_some, e3, Option.bind_some, e4, Option.bind_some, e5, Option.bind_some]
  simp only
  split
  · obtain ⟨x, s6, e6, _⟩ := among_is (m := 100) (h5.le (by omega)) (l := [(-1), 0, 20000, 20001]) (by simp) (by simp)
    rw [e6]; exact ⟨_, _, rfl, hl⟩
  · split
    · obtain ⟨x, s6, e6, _⟩ := among_is (m := 100) (h5.le (by omega)) (l := [(-1), 0, 1000000, 1000001]) (by simp) (by simp)
      rw [e6]; exact ⟨_, _, rfl, hl⟩
    · split
      · obtain ⟨x, s6, e6, _⟩ := among_is (m := 100) (h5.le (by omega)) (l := [0, 1, 3, 4]) (by simp) (by simp)
        rw [e6]; exact ⟨_, _, rfl, hl⟩
      · exact ⟨_, _, rfl, hl⟩

/-! ### Both programs -/

theorem f6ints_refl {l : List Int} (hl : l.length ≤ 1000000) : laws_f6ints l l = some true := by
  unfold laws_f6ints
  rw [if_neg (by simp), while_all (step := laws_f6ints_l1 l l) (fun _ => true) l.length true (yes := .inl ()) (no := .inr false) (by simp) (fun i hi => by
    simp only [laws_f6ints_l1, Int.ofNat_lt, hi, decide_true, if_true, ixOk_nat, ck_true, Int.toNat_natCast, wrap_nat1 (show i < 9223372036854775807 by omega), beq_self_eq_true, Bool.not_true, Bool.false_eq_true, if_false]) (by simp [laws_f6ints_l1])]
  rfl

def someF (o : Option Facts) : Facts × Int := match o with | some f => (f, 0) | none => (⟨0, 0, 0⟩, 3)
def factsForR (l : List Rule) (k : Int) : Facts × Int := if validRu l = true then (if inL l k = true then someF (facsR l k) else (⟨0, 0, 0⟩, 2)) else (⟨0, 0, 0⟩, 1)
def freeR (l : List Rule) : Facts × Int := if validRu l = true then someF (facsR l (-1)) else (⟨0, 0, 0⟩, 1)
def lostR (l : List Rule) : List Int := keptTo (α := Int) (fun i => (facsR l (i : Int)).isNone) (fun i => (i : Int)) l.length
def neverR (l : List Rule) : List Int × Int := if validRu l = true then (lostR l, 0) else ([], 1)

theorem FactsFor_impl {l : List Rule} (hl : l.length ≤ 1000) (k : Int) : impl_FactsFor l k = some (factsForR l k) := by
  unfold impl_FactsFor factsForR impl_count_impl_Rule
  rw [ValidRules_is (by omega), Option.bind_some]
  cases hv : validRu l
  · rfl
  · have w : IntKind.i64.wrap ((l.length : Int) - 1) = (l.length : Int) - 1 := wrap_i64 (by omega) (by omega)
    simp only [Bool.not_true, Bool.false_eq_true, if_false, if_true, Option.bind_some, w, impl_in_is]
    have e1 : (decide (0 ≤ k) && decide (k ≤ (l.length : Int) - 1)) = inL l k := rfl
    rw [e1, factsFor_is hl (validRu_in hv).2]
    cases inL l k
    · rfl
    · cases facsR l k <;> rfl

theorem FactsFor_spec {l : List Rule} (hl : l.length ≤ 1000) (k : Int) : spec_FactsFor l k = some (factsForR l k) := by
  unfold spec_FactsFor factsForR
  rw [l18Ok_is (by omega), Option.bind_some]
  cases hv : validRu l
  · rfl
  · have w : IntKind.i64.wrap ((l.length : Int) - 1) = (l.length : Int) - 1 := wrap_i64 (by omega) (by omega)
    simp only [Bool.not_true, Bool.false_eq_true, if_false, if_true, Option.bind_some, w, spec_l00In_is]
    have e1 : (decide (0 ≤ k) && decide (k ≤ (l.length : Int) - 1)) = inL l k := rfl
    rw [e1, l18Find_is hl (validRu_in hv).2]
    cases inL l k
    · rfl
    · cases facsR l k <;> rfl

theorem Free_impl {l : List Rule} (hl : l.length ≤ 1000) : impl_UnclassedFacts l = some (freeR l) := by
  unfold impl_UnclassedFacts freeR
  rw [ValidRules_is (by omega), Option.bind_some]
  cases hv : validRu l
  · rfl
  · rw [factsFor_is hl (validRu_in hv).2]
    cases facsR l (-1) <;> rfl

theorem Free_spec {l : List Rule} (hl : l.length ≤ 1000) : spec_UnclassedFacts l = some (freeR l) := by
  unfold spec_UnclassedFacts freeR
  rw [l18Ok_is (by omega), Option.bind_some]
  cases hv : validRu l
  · rfl
  · rw [l18Find_is hl (validRu_in hv).2]
    cases facsR l (-1) <;> rfl

theorem found_none (o : Option Facts) : (!(foundF o).2) = o.isNone := by cases o <;> rfl

theorem Never_impl {l : List Rule} (hl : l.length ≤ 1000) : impl_NeverReached l = some (neverR l) := by
  unfold impl_NeverReached neverR impl_indicesWhere__impl_NeverReached_c1
  rw [ValidRules_is (by omega), Option.bind_some]
  cases hv : validRu l
  · rfl
  · simp only [Bool.not_true, Bool.false_eq_true, if_false, if_true]
    rw [while_keep (step := impl_indicesWhere__impl_NeverReached_c1_l1 l (l.length : Int)) (fun i => (facsR l (i : Int)).isNone) (fun i => (i : Int)) l.length (r := lostR l) (fun out i hi ho => by
      simp only [impl_indicesWhere__impl_NeverReached_c1_l1, impl_NeverReached_c1, factsFor_is hl (validRu_in hv).2, Int.ofNat_lt, hi, decide_true, if_true, Option.bind_some, found_none, wrap_nat1 (show i < 9223372036854775807 by omega)]
      rw [appOk_of (by simp; omega), ck_true]
      split <;> rfl) (by simp [impl_indicesWhere__impl_NeverReached_c1_l1, lostR, keptTo])]
    rfl

theorem Never_spec {l : List Rule} (hl : l.length ≤ 1000) : spec_NeverReached l = some (neverR l) := by
  unfold spec_NeverReached neverR
  rw [l18Ok_is (by omega), Option.bind_some]
  cases hv : validRu l
  · rfl
  · simp only [Bool.not_true, Bool.false_eq_true, if_false, if_true]
    rw [while_keep (step := spec_NeverReached_l1 l) (fun i => (facsR l (i : Int)).isNone) (fun i => (i : Int)) l.length (r := lostR l) (fun out i hi ho => by
      simp only [spec_NeverReached_l1, l18Find_is hl (validRu_in hv).2, Int.ofNat_lt, hi, decide_true, if_true, Option.bind_some, found_none, wrap_nat1 (show i < 9223372036854775807 by omega)]
      rw [appOk_of (by simp; omega), ck_true]
      split <;> rfl) (by simp [spec_NeverReached_l1, lostR, keptTo])]
    rfl

theorem lostR_len (l : List Rule) : (lostR l).length ≤ l.length := keptTo_len _ _ _

theorem lostR_mem {l : List Rule} {x : Int} : x ∈ lostR l ↔ ∃ i : Nat, i < l.length ∧ facsR l (i : Int) = none ∧ x = (i : Int) := by
  unfold lostR keptTo
  simp only [List.mem_map, List.mem_filter, List.mem_range, Option.isNone_iff_eq_none]
  constructor
  · rintro ⟨i, ⟨a, b⟩, rfl⟩; exact ⟨i, a, b, rfl⟩
  · rintro ⟨i, a, b, rfl⟩; exact ⟨i, ⟨a, b⟩, rfl⟩

/-! ### Hits -/

theorem head_get {l : List Int} {x : Int} (h : l.head? = some x) : l.getD 0 default = x := by
  cases l with
  | nil => cases h
  | cons a r => cases h; rfl

theorem firstI_some {l : List Rule} {f : Facts} (h : 0 < (hitsR l f).length) : (hitsR l f).getD 0 default = firstI l f ∧ ∃ j : Nat, firstR l f = some j := by
  have e := hitsR_head l f
  cases hf : firstR l f with
  | none =>
    rw [hf] at e
    cases hh : hitsR l f with
    | nil => rw [hh] at h; simp at h
    | cons a r => rw [hh] at e; cases e
  | some j =>
    rw [hf] at e
    refine ⟨?_, j, rfl⟩
    rw [head_get e]
    unfold firstI
    rw [hf]

theorem firstI_nat {l : List Rule} {f : Facts} {k : Nat} (h : firstI l f = (k : Int)) : firstR l f = some k := by
  unfold firstI at h
  cases hf : firstR l f with
  | none => rw [hf] at h; simp only at h; omega
  | some j => rw [hf] at h; simp only at h; congr 1; omega

theorem firstI_neg {l : List Rule} {f : Facts} (h : firstI l f = -1) : hitsR l f = [] := by
  unfold firstI at h
  cases hf : firstR l f with
  | none =>
    have e := hitsR_head l f
    rw [hf] at e
    cases hh : hitsR l f with
    | nil => rfl
    | cons a r => rw [hh] at e; cases e
  | some j => rw [hf] at h; simp only at h; omega

theorem hits_pos {l : List Rule} {f : Facts} {j : Nat} (h : firstR l f = some j) : 0 < (hitsR l f).length ∧ (hitsR l f).getD 0 default = (j : Int) := by
  have e := hitsR_head l f
  rw [h] at e
  refine ⟨?_, head_get e⟩
  cases hh : hitsR l f with
  | nil => rw [hh] at e; cases e
  | cons a r => simp

/-! ### The law -/

theorem gone_loop {r : List Rule} {fc : Facts} (hr : r.length ≤ 1000) (hv : validRu r = true) (hf : factsB fc = true) (hp : 0 < (hitsR r fc).length) (l k f b lo) : whileE (laws_FnReached_l1 l k f b lo r (hitsR r fc) (lostR r)) 0 = some (.inl ()) := by
  obtain ⟨e1, j, e2⟩ := firstI_some hp
  have hlen := lostR_len r
  rw [while_all (step := laws_FnReached_l1 l k f b lo r (hitsR r fc) (lostR r)) (fun _ => true) (lostR r).length true (yes := .inl ()) (no := .inr false) (by simp) (fun i hi => by
    have hm := getD_mem hi default
    obtain ⟨q, hq1, hq2, hq3⟩ := lostR_mem.1 hm
    have hne : ¬ ((lostR r).getD i default == (hitsR r fc).getD 0 default) = true := by
      rw [e1, hq3, beq_iff_eq]
      intro e
      exact facsR_reach (l := r) hf (by rw [← e]; exact hq2)
    simp only [laws_FnReached_l1, Int.ofNat_lt, hi, decide_true, if_true, ixOk_nat, ck_true, Int.toNat_natCast, wrap_nat1 (show i < 9223372036854775807 by omega)]
    rw [ixOk_of (by omega) (by omega), ck_true, if_neg hne]) (by simp [laws_FnReached_l1])]
  rfl

theorem whileE_from {ρ : Type} {step : Int → Option (Int ⊕ ρ)} {yes : ρ} (n : Nat) (hs : ∀ i : Nat, i < n → step (i : Int) = some (.inl ((i + 1 : Nat) : Int))) (he : step (n : Int) = some (.inr yes)) : ∀ m i : Nat, i + m = n → whileE step (i : Int) = some yes
  | 0, i, h => by
    obtain rfl : i = n := by omega
    exact whileE_done he
  | m + 1, i, h => by
    rw [whileE_next (hs i (by omega))]
    exact whileE_from n hs he m (i + 1) (by omega)

theorem over_loop {r : List Rule} {fc : Facts} (hr : r.length ≤ 1000) (hv : validRu r = true) (hf : factsB fc = true) (hp : 0 < (hitsR r fc).length) (l k f b lo) : whileE (laws_FnReached_l2 l k f b lo r (hitsR r fc)) 1 = some (.inl ()) := by
  have hlen := hitsR_len r fc
  refine whileE_from (step := laws_FnReached_l2 l k f b lo r (hitsR r fc)) (hitsR r fc).length (fun i hi => ?_) (by simp [laws_FnReached_l2]) ((hitsR r fc).length - 1) 1 (by omega)
  obtain ⟨p, p1, p2, p3⟩ := hitsR_mem.1 (getD_mem hp default)
  obtain ⟨q, q1, q2, q3⟩ := hitsR_mem.1 (getD_mem hi default)
  have e : overR r ((hitsR r fc).getD 0 default) ((hitsR r fc).getD i default) = (true, 0) := by
    rw [p3, q3]
    unfold overR
    have i1 : inL r (p : Int) = true := by unfold inL; simp; omega
    have i2 : inL r (q : Int) = true := by unfold inL; simp; omega
    rw [if_pos hv, i1, i2, Int.toNat_natCast, Int.toNat_natCast, over_of p2 q2]; rfl
  simp only [laws_FnReached_l2, Int.ofNat_lt, hi, decide_true, if_true, ixOk_nat, ck_true, Int.toNat_natCast, wrap_nat1 (show i < 9223372036854775807 by omega)]
  rw [ixOk_of (by omega) (by omega), ck_true, Overlap_impl (by omega), Option.bind_some, e]
  rfl

theorem lost_loop {l : List Rule} (hl : l.length ≤ 1000) {k : Int} (hk : k ∈ lostR l) : whileE (laws_FnReached_l3 k (lostR l)) 0 = some (.inr true) := by
  have hlen := lostR_len l
  rw [while_find (step := laws_FnReached_l3 k (lostR l)) (fun i => (lostR l).getD i default == k) (fun _ => true) (lostR l).length (fun i hi => by
    simp only [laws_FnReached_l3, Int.ofNat_lt, hi, decide_true, if_true, ixOk_nat, ck_true, Int.toNat_natCast, wrap_nat1 (show i < 9223372036854775807 by omega)]
    split <;> rfl) (by simp [laws_FnReached_l3])]
  cases hc : (List.range (lostR l).length).find? (fun i => (lostR l).getD i default == k) with
  | some j => rfl
  | none =>
    rw [List.find?_eq_none] at hc
    obtain ⟨j, hj, e⟩ := List.getElem_of_mem hk
    have := hc j (by simpa using hj)
    rw [getD_lt hj, e] at this
    simp at this

/-- The last part: facts for a rule have it as the first one. -/
theorem last_is {l : List Rule} (hl : l.length ≤ 1000) (k : Int) : (if ((factsForR l k).2 == 0) then
          (impl_RulesFor l (factsForR l k).1).bind fun y_75 =>
          ck (!((y_75.2 == 0) && (decide (0 < (y_75.1.length : Int)))) || ixOk 0 y_75.1.length) <|
          some (((y_75.2 == 0) && (decide (0 < (y_75.1.length : Int)))) && ((y_75.1.getD 0 default) == k))
        else
          if (!((factsForR l k).2 == 3)) then
            some true
          else
            (whileE (laws_FnReached_l3 k (neverR l).1) 0).bind fun y_81 =>
            match y_81 with
            | .inl y_81a =>
              some false
            | .inr y_81b =>
              some y_81b) = some true := by
  unfold factsForR neverR
  cases hv : validRu l
  · rfl
  · simp only [if_true]
    cases hk : inL l k
    · rfl
    · simp only [if_true]
      unfold inL at hk
      simp only [Bool.and_eq_true, decide_eq_true_eq] at hk
      cases hs : facsR l k with
      | none =>
        have hm : k ∈ lostR l := lostR_mem.2 ⟨k.toNat, by omega, by rw [Int.toNat_of_nonneg hk.1]; exact hs, by omega⟩
        show (whileE (laws_FnReached_l3 k (lostR l)) 0).bind _ = _
        rw [lost_loop hl hm]; rfl
      | some f =>
        obtain ⟨hf, h1⟩ := facsR_some (validRu_in hv).2 hs
        have h2 := firstI_nat (l := l) (f := f) (k := k.toNat) (by omega)
        obtain ⟨p1, p2⟩ := hits_pos h2
        show (impl_RulesFor l f).bind _ = _
        have e : forR l f = (hitsR l f, 0) := by unfold forR; rw [if_pos hv, if_pos hf]
        rw [RulesFor_impl (by omega), e, Option.bind_some]
        simp only
        rw [ixOk_of (by omega) (by omega), Bool.or_true, ck_true, p2, Int.toNat_of_nonneg hk.1]
        have e2 : decide ((0 : Int) < ((hitsR l f).length : Int)) = true := by simpa using p1
        rw [e2]; simp

/-- The part before: of rules that match, the first one is reached, and all overlap with it. -/
theorem mid_is {r : List Rule} (hr : r.length ≤ 1000) (fc : Facts) {l k f b lo} {X : Option Bool} : (if (((forR r fc).2 == 0) && (decide (0 < ((forR r fc).1.length : Int)))) then
        (impl_NeverReached r).bind fun y_53 =>
        if (!(y_53.2 == 0)) then
          some false
        else
          (whileE (laws_FnReached_l1 l k f b lo r (forR r fc).1 y_53.1) 0).bind fun y_59 =>
          match y_59 with
          | .inl y_59a =>
            (whileE (laws_FnReached_l2 l k f b lo r (forR r fc).1) 1).bind fun y_65 =>
            match y_65 with
            | .inl y_65a =>
              X
            | .inr y_65b =>
              some y_65b
          | .inr y_59b =>
            some y_59b
      else
        X) = X := by
  unfold forR
  cases hv : validRu r
  · rfl
  · cases hf : factsB fc
    · rfl
    · simp only [if_true, beq_self_eq_true, Bool.true_and]
      split
      · rename_i h
        have hp : 0 < (hitsR r fc).length := by simpa using h
        have e : neverR r = (lostR r, 0) := by unfold neverR; rw [if_pos hv]
        rw [Never_impl hr, e, Option.bind_some]
        simp only [beq_self_eq_true, Bool.not_true, Bool.false_eq_true, if_false]
        rw [gone_loop hr hv hf hp, Option.bind_some]
        simp only
        rw [over_loop hr hv hf hp]; rfl
      · rfl

theorem facts_beq (f : Facts) : ((f.Amp == f.Amp) && ((f.Period == f.Period) && (f.Shape == f.Shape))) = true := by simp

theorem law_Reached {code : List UInt8} (w : code.length ≤ maxLen) : laws_FnReached code = some true := by
  unfold laws_FnReached laws_f6big
  rw [Option.bind_some]
  by_cases hb : (4096 : Int) < (code.length : Int)
  · simp [hb]
  have hc : code.length ≤ 1099511627776 := by omega
  rw [if_neg (by simpa using hb)]
  obtain ⟨l, k, b, e1, hl⟩ := l18Two_is hc
  have e2 : spec_DrawFactsFor code = some (l, k) := by unfold spec_DrawFactsFor; rw [e1]; rfl
  have e3 : spec_DrawRulesOverlap code = some (l, k, b) := by unfold spec_DrawRulesOverlap; rw [e1]; rfl
  obtain ⟨r, fc, e4, hr⟩ := DrawClass_is hc
  have e5 := FactsFor_impl (l := l) (by omega) k
  have e6 := FactsFor_spec (l := l) (by omega) k
  have e7 := Never_impl (l := l) (by omega)
  have e8 := Never_spec (l := l) (by omega)
  have e9 := Free_impl (l := l) (by omega)
  have e10 := Free_spec (l := l) (by omega)
  have e11 := Overlap_impl (l := l) (by omega) k b
  have e12 := Overlap_spec (l := l) (by omega) k b
  have e13 : laws_f6ints (neverR l).1 (neverR l).1 = some true := f6ints_refl (by
    unfold neverR
    split
    · have := lostR_len l
      show (lostR l).length ≤ 1000000
      omega
    · simp)
  have e14 := RulesFor_spec (l := r) (by omega) fc
  rw [e2, Option.bind_some]
  simp only [e5, e6, e7, e8, e9, e10, e3, e11, e12, e13, e4, e14, Option.bind_some, Option.isSome_some, Option.getD_some, Bool.or_true, ck_true, facts_beq, beq_self_eq_true, Bool.not_true, Bool.or_self, Bool.false_eq_true, if_false]
  have last1 := last_is (l := l) (by omega) k
  have l5 : ∀ l k f b lo r h g, laws_FnReached_l5 l k f b lo r h g = laws_FnReached_l1 l k f b lo r h g := fun _ _ _ _ _ _ _ _ => id rfl
  have l6 : ∀ l k f b lo r h, laws_FnReached_l6 l k f b lo r h = laws_FnReached_l2 l k f b lo r h := fun _ _ _ _ _ _ _ => id rfl
  have l4 : ∀ k lo, laws_FnReached_l4 k lo = laws_FnReached_l3 k lo := fun _ _ => id rfl
  have l7 : ∀ k lo, laws_FnReached_l7 k lo = laws_FnReached_l3 k lo := fun _ _ => id rfl
  have l8 : ∀ k lo, laws_FnReached_l8 k lo = laws_FnReached_l3 k lo := fun _ _ => id rfl
  simp only [l5, l6, l4, l7, l8]
  by_cases h8 : ((freeR l).2 == 0) = true
  · rw [if_pos h8]
    have hz : ∃ f, forR l (freeR l).1 = ([], 0) ∧ f = (freeR l).1 := by
      refine ⟨_, ?_, rfl⟩
      unfold freeR at h8 ⊢
      cases hv : validRu l
      · rw [hv] at h8; cases h8
      · rw [hv] at h8
        simp only [if_true] at h8 ⊢
        cases hs : facsR l (-1) with
        | none => rw [hs] at h8; cases h8
        | some f =>
          obtain ⟨hf, h1⟩ := facsR_some (validRu_in hv).2 hs
          show forR l f = _
          unfold forR
          rw [if_pos hv, if_pos hf, firstI_neg h1]
    obtain ⟨_, hz, _⟩ := hz
    rw [RulesFor_impl (by omega), hz, Option.bind_some]
    rw [if_neg (by simp)]
    exact (mid_is (r := r) (by omega) fc).trans last1
  · rw [if_neg h8]
    exact (mid_is (r := r) (by omega) fc).trans last1

end Go.Proofs.Ytlnpnpjkpkdoeaa
