/- The plain law of FnRules. No condition. -/
import Derived.Test.YtelkmhdolnjnpaaGreatDoorHRuleM
namespace Go.Proofs.YtelkmhdolnjnpaaGreatDoor
open Go Go.RowKit
set_option linter.unusedSimpArgs false
set_option linter.unusedVariables false

theorem textRu_ne (x : Rule) : textRu x ≠ [] := by unfold textRu wordsRu joinOn; simp

theorem readRu_nil : readRu [] = (⟨[], 0, 0, 0, 0, 0⟩, false) := readRu_none (fun ⟨x, _, e⟩ => textRu_ne x e.symm)

theorem rule_beq (r : Rule) : ((r.Class == r.Class) && ((r.FromAmp == r.FromAmp) && ((r.ToAmp == r.ToAmp) && ((r.FromPer == r.FromPer) && ((r.ToPer == r.ToPer) && (r.Shape == r.Shape)))))) = true := by simp

/-- The last part: the class is that of the first rule that matches. -/
theorem last_is (l : List Rule) (f : Facts) : (if (!((forR l f).2 == 0)) then
            some true
          else
            if (!((clsR l f).2 == 0)) then
              some (((forR l f).1.length : Int) == 0)
            else
              ck (!(decide (0 < ((forR l f).1.length : Int))) || ixOk 0 (forR l f).1.length) <|
              ck (!(decide (0 < ((forR l f).1.length : Int))) || ixOk ((forR l f).1.getD 0 default) l.length) <|
              some ((decide (0 < ((forR l f).1.length : Int))) && (((l.getD ((forR l f).1.getD 0 default).toNat default).Class) == (clsR l f).1))) = some true := by
  unfold forR clsR
  cases hv : validRu l
  · rfl
  · cases hf : factsB f
    · rfl
    · simp only [if_true]
      by_cases h : firstI l f < 0
      · rw [if_pos h]
        have h1 : firstI l f = -1 := by
          unfold firstI at h ⊢
          cases hr : firstR l f with
          | none => rfl
          | some j => rw [hr] at h; simp only at h; omega
        rw [firstI_neg h1]; rfl
      · rw [if_neg h]
        have hlt := firstI_lt h
        obtain ⟨j, hj⟩ : ∃ j, firstR l f = some j := by
          unfold firstI at h
          cases hr : firstR l f with
          | none => rw [hr] at h; simp at h
          | some j => exact ⟨j, rfl⟩
        obtain ⟨p1, p2⟩ := hits_pos hj
        have e : firstI l f = (j : Int) := by unfold firstI; rw [hj]
        rw [e, Int.toNat_natCast] at hlt
        have e2 : decide ((0 : Int) < ((hitsR l f).length : Int)) = true := by simpa using p1
        show (if (!((0 : Int) == 0)) = true then _ else if (!((0 : Int) == 0)) = true then _ else _) = _
        rw [if_neg (by decide), if_neg (by decide)]
        show ck (!(decide (0 < ((hitsR l f).length : Int))) || ixOk 0 (hitsR l f).length) (ck (!(decide (0 < ((hitsR l f).length : Int))) || ixOk ((hitsR l f).getD 0 default) l.length) (some ((decide (0 < ((hitsR l f).length : Int))) && (((l.getD ((hitsR l f).getD 0 default).toNat default).Class) == (l.getD (firstI l f).toNat default).Class)))) = _
        rw [p2, e, e2, ixOk_of (by omega) (by omega), ixOk_of (by omega) (by omega), Int.toNat_natCast]
        simp [ck_true]

theorem law_Rules {code : List UInt8} (w : code.length ≤ maxLen) : laws_FnRules code = some true := by
  unfold laws_FnRules laws_f6big
  rw [Option.bind_some]
  by_cases hb : (4096 : Int) < (code.length : Int)
  · simp [hb]
  have hc : code.length ≤ 1099511627776 := by omega
  rw [if_neg (by simpa using hb)]
  obtain ⟨l, f, e1, hl⟩ := DrawClass_is hc
  have e2 := ClassOf_impl (l := l) (by omega) f
  have e3 := ClassOf_spec (l := l) (by omega) f
  have e4 := RulesFor_impl (l := l) (by omega) f
  have e5 := RulesFor_spec (l := l) (by omega) f
  obtain ⟨r, g, e6⟩ := DrawMatch_is hc
  have e7 := Matches_impl r g
  have e8 := Matches_spec r g
  obtain ⟨m, a, b, e9, hm⟩ := DrawMove_is hc
  obtain ⟨y, c, hy, e10, e11, k1⟩ := Move_same (l := m) (by omega) a b
  obtain ⟨t, e12⟩ := DrawText_is hc
  have e13 := RuleText_impl t
  have e14 := RuleText_spec t
  obtain ⟨s, e15, hs⟩ := DrawRead_is hc
  have e16 := ReadRule_impl hs
  have e17 := ReadRule_spec hs
  obtain ⟨p, q, e18, hp⟩ := DrawSame_is hc
  have e19 := SameRu_impl (a := p) (b := q) (by omega)
  have e20 := SameRu_is (a := p) (b := q) (by omega)
  have e21 : laws_f6ints (forR l f).1 (forR l f).1 = some true := f6ints_refl (by
    unfold forR
    split
    · split
      · have := hitsR_len l f
        show (hitsR l f).length ≤ 1000000
        omega
      · simp
    · simp)
  have e22 := ValidRules_is (l := l) (by omega)
  have e23 : spec_ValidRules l = some (validRu l) := by unfold spec_ValidRules; rw [l18Ok_is (by omega)]; rfl
  have e24 : spec_SameRules y y = some true := by rw [SameRu_is (by omega)]; simp
  have e25 : spec_SameRules m m = some true := by rw [SameRu_is (by omega)]; simp
  obtain ⟨T, hT, e26, e27, e28⟩ : ∃ T : List UInt8, T = (if oneRu t = true then textRu t else []) ∧ T.length ≤ 1048576 ∧ (readRu T).2 = (!(T == ([] : List UInt8))) ∧ ((readRu T).2 && (!(((readRu T).1.Class == t.Class) && (((readRu T).1.FromAmp == t.FromAmp) && (((readRu T).1.ToAmp == t.ToAmp) && (((readRu T).1.FromPer == t.FromPer) && (((readRu T).1.ToPer == t.ToPer) && ((readRu T).1.Shape == t.Shape)))))))) = false := by
    refine ⟨_, rfl, ?_⟩
    cases ho : oneRu t
    · rw [if_neg (by simp), readRu_nil]
      exact ⟨by simp, by simp, by simp⟩
    · have := text_len ho
      rw [if_pos rfl, readRu_text ho]
      refine ⟨by omega, ?_, by simp⟩
      have hn := textRu_ne t
      symm
      simpa using hn
  rw [← hT] at e13 e14
  have e29 := ReadRule_impl e26
  rw [e27] at e28
  simp only [e1, e2, e3, e4, e5, e6, e7, e8, e9, e10, e11, e12, e13, e14, e15, e16, e17, e18, e19, e20, e21, e22, e23, e24, e27, e28, e29, Option.bind_some, Option.isSome_some, Option.getD_some, Bool.or_true, ck_true, rule_beq, beq_self_eq_true, Bool.not_true, Bool.or_self, Bool.false_eq_true, if_false, Bool.and_self]
  have last := last_is l f
  by_cases h : (c == 0) = true
  · rw [if_pos h]
    have hc0 : c = 0 := by simpa using h
    rw [k1 hc0, Option.bind_some]
    simp only [e25, Option.isSome_some, Option.getD_some, Bool.or_true, ck_true, beq_self_eq_true, Bool.not_true, Bool.or_self, Bool.false_eq_true, if_false]
    exact last
  · rw [if_neg h]
    exact last

end Go.Proofs.YtelkmhdolnjnpaaGreatDoor
