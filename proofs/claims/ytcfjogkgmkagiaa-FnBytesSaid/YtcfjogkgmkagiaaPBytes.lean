/- The plain law of FnBytes. No condition. -/
import Derived.Test.YtcfjogkgmkagiaaHDrawB2
import Derived.Test.YtcfjogkgmkagiaaHHexB
import Derived.Test.YtcfjogkgmkagiaaHSign
import Derived.Test.YtcfjogkgmkagiaaHBOH
namespace Go.Proofs.Ytcfjogkgmkagiaa
open Go Go.RowKit
set_option linter.unusedSimpArgs false
set_option linter.unusedVariables false

theorem DrawBytesOfHex_is {c : List UInt8} (h : c.length ≤ 1099511627776) : ∃ l, spec_DrawBytesOfHex c = some l ∧ l.length ≤ 16010 := by
  unfold spec_DrawBytesOfHex
  rw [From_is, Option.bind_some]
  obtain ⟨l, s2, e2, hl, h2⟩ := Bytes_is (m := 800000000000) ((srcN_from h).le (by omega))
  have hx := spec_HexOf_is l
  rw [if_neg (by omega)] at hx
  have hxl := hexP_len l
  obtain ⟨v, s3, e3, h3⟩ := one_is (m := 700000000000) (h2.le (by omega)) (n := 3) (by omega)
  simp only [e2, hx, e3, Option.bind_some]
  cases hv : v
  · obtain ⟨v2, s4, e4, h4⟩ := one_is (m := 600000000000) (h3.le (by omega)) (n := 24) (by omega)
    simp only [Bool.false_eq_true, if_false, e4, Option.bind_some]
    cases hv2 : v2
    · simp only [Bool.false_eq_true, if_false]
      exact ⟨_, rfl, by omega⟩
    · have hx2 := spec_HexOf_is (List.replicate 8000 0)
      rw [if_neg (by rw [List.length_replicate]; omega)] at hx2
      have hx2l := hexP_len (List.replicate 8000 0)
      rw [List.length_replicate] at hx2l
      obtain ⟨x, s5, e5, hx5, _⟩ := text_is (m := 500000000000) (h4.le (by omega)) (l := [([] : List UInt8), ([48, 48] : List UInt8)]) (by simp) (by simp)
      have hx1 : x.length ≤ 2 := by
        simp only [List.mem_cons, List.not_mem_nil, or_false] at hx5
        rcases hx5 with rfl | rfl <;> simp
      simp only [if_true, hx2, e5, Option.bind_some]
      rw [mkOk_of (by omega) (by omega) (by omega), ck_true, ck_of (show catOk _ _ = true by simp only [catOk, decide_eq_true_eq]; omega)]
      exact ⟨_, rfl, by rw [List.length_append]; omega⟩
  · obtain ⟨y, s4, e4, hy⟩ := l01Spoil_is (m := 600000000000) (h3.le (by omega)) (t := hexP l) (by omega)
    simp only [if_true, e4, Option.bind_some]
    exact ⟨_, rfl, by omega⟩

theorem NumberBytes_same {v : Int} (h : R64 v) : ∃ y, impl_NumberBytes v = some y ∧ spec_NumberBytes v = some y ∧ (y.2 = 0 → 0 ≤ v ∧ y.1 = numP v.toNat) := by
  unfold impl_NumberBytes spec_NumberBytes
  by_cases hn : v < 0
  · simp only [hn, decide_true, if_true]
    exact ⟨_, rfl, rfl, fun c => absurd c (by simp)⟩
  · obtain ⟨l, hl, e1, e2⟩ := number_is (n := v) (by omega) h.2
    have e3 := number_numP (n := v.toNat) (by have := h.2; omega)
    rw [show ((v.toNat : Nat) : Int) = v by omega, e1] at e3
    simp only [hn, decide_false, Bool.false_eq_true, if_false, e1, e2 [] (by simp), Option.bind_some, List.nil_append]
    exact ⟨_, rfl, rfl, fun _ => ⟨by omega, by simpa using e3⟩⟩

theorem ReadNumber_same (b : List UInt8) : ∃ y, spec_ReadNumber b = some y ∧ impl_ReadNumber b = some y := by
  obtain ⟨n, k, ok, e1, e2, _⟩ := read_is b
  exact ⟨_, by unfold spec_ReadNumber; rw [e1]; rfl, e2⟩

theorem read_back {v : Int} (h0 : 0 ≤ v) (h : R64 v) : impl_ReadNumber (numP v.toNat) = some (v, ((numP v.toNat).length : Int), true) := by
  obtain ⟨y, e1, e2⟩ := ReadNumber_same (numP v.toNat)
  have hv := h.2
  have := read_numP (v.toNat + 1) v.toNat (numP v.toNat) [] 0 (by omega) rfl (by simp) (.inl rfl) (by simp; omega)
  simp only [List.length_nil, Nat.mul_zero, Nat.pow_zero, Nat.mul_one, Nat.zero_add, Int.ofNat_zero] at this
  rw [e2, ← e1]
  unfold spec_ReadNumber spec_l25Read
  have h2 : whileE (spec_l25Read_l1 (numP v.toNat)) (0, 0) = some (.inr (((v.toNat : Nat) : Int), (((numP v.toNat).length : Nat) : Int), true)) := this
  rw [h2, show ((v.toNat : Nat) : Int) = v by omega]
  rfl

theorem Sum_some (q : List UInt8) (hq : q.length ≤ 1099511627776) : ∃ v, spec_SumOfBytes q = some v := by
  obtain ⟨y, hy, _⟩ := while_post (step := spec_l25Sum_l1 q) (fun x => ∃ I : Nat, x.2.2 = (I : Int) ∧ I ≤ q.length) (fun _ => True) (fun x => q.length - x.2.2.toNat) (by
    rintro ⟨s, t, i⟩ ⟨I, rfl, hI⟩
    by_cases hk : I < q.length
    · refine .inl ⟨_, by simp only [spec_l25Sum_l1, Int.ofNat_lt, hk, decide_true, if_true, ixOk_nat, ck_true, nz_of (show (251 : Int) ≠ 0 by decide), wrap_nat1 (show I < 9223372036854775807 by omega)]; rfl, ⟨I + 1, rfl, by omega⟩, by show q.length - (((I + 1 : Nat) : Int)).toNat < q.length - ((I : Int)).toNat; omega⟩
    · exact .inr ⟨(s, t), by simp [spec_l25Sum_l1, hk], trivial⟩) (s := ((1 : Int), (0 : Int), (0 : Int))) ⟨0, rfl, by omega⟩
  unfold spec_SumOfBytes spec_l25Sum
  rw [hy]
  exact ⟨_, rfl⟩

theorem law_Bytes {code : List UInt8} (w : code.length ≤ maxLen) : laws_FnBytes code = some true := by
  unfold laws_FnBytes laws_f6big
  simp only [Option.bind_some]
  by_cases hb : 4096 < (code.length : Int)
  · rw [if_pos (by simpa using hb)]
  · rw [if_neg (by simpa using hb)]
    have hc : code.length ≤ 1099511627776 := by omega
    obtain ⟨a, ea, ra⟩ := DrawNumberBytes_is hc
    obtain ⟨ya, na1, na2, na3⟩ := NumberBytes_same ra
    obtain ⟨r, er⟩ := DrawReadNumber_is hc
    obtain ⟨yr, r1, r2⟩ := ReadNumber_same r
    obtain ⟨f, ef, _⟩ := DrawFoldSign_is hc
    obtain ⟨yf, f1⟩ : ∃ y, impl_FoldSign f = some y := ⟨_, FoldSign_is f⟩
    have f2 : spec_FoldSign f = some yf := f1
    have f3 : yf.2 = 0 → impl_UnfoldSign yf.1 = some (f, 0) := fun c => Unfold_of_fold (by rw [f1, ← c])
    obtain ⟨u, eu, _⟩ := DrawUnfoldSign_is hc
    obtain ⟨yu, u1⟩ : ∃ y, impl_UnfoldSign u = some y := ⟨_, UnfoldSign_is u⟩
    have u2 : spec_UnfoldSign u = some yu := u1
    obtain ⟨x, ex, hx⟩ := DrawHexOf_is hc
    obtain ⟨yx, x1, x2, x3⟩ : ∃ y, impl_HexOf x = some y ∧ spec_HexOf x = some y ∧ (y.2 = 0 → impl_BytesOfHex y.1 = some (x, true)) := by
      refine ⟨_, impl_HexOf_is x, spec_HexOf_is x, ?_⟩
      by_cases h8 : 8000 < x.length
      · rw [if_pos h8]; intro c; exact absurd c (by simp)
      · rw [if_neg h8]; intro _
        obtain ⟨l, b, _, e1, e2⟩ := BytesOfHex_same (s := hexP x) (by rw [hexP_len]; omega)
        rw [spec_Hex_back x (by omega)] at e1
        rw [e2, ← e1]
    obtain ⟨z, ez, hz⟩ := DrawBytesOfHex_is hc
    obtain ⟨zl, zb, hzl, z1, z2⟩ := BytesOfHex_same (s := z) (by omega)
    obtain ⟨q, eq, hq⟩ := DrawSumOfBytes_is hc
    obtain ⟨sm, s1⟩ := Sum_some q (by omega)
    have s2 : impl_SumOfBytes q = some sm := by rw [SumOfBytes_same, s1]
    have last : (if (!(ya.2 == 0)) = true then some true else (impl_ReadNumber ya.1).bind fun y => some ((y.2.2 && (y.1 == a)) && (y.2.1 == (ya.1.length : Int)))) = some true := by
      by_cases c : ya.2 = 0
      · obtain ⟨a0, a1⟩ := na3 c
        rw [if_neg (by simp [c]), a1, read_back a0 ra]
        simp
      · rw [if_pos (by simpa using c)]
    simp only [ea, na1, na2, er, r1, r2, ef, f1, f2, eu, u1, u2, ex, x1, x2, ez, z1, z2, eq, s1, s2, Option.bind_some, beq_self_eq_true, Bool.not_true, Bool.not_false, Bool.or_self, Bool.or_false, Bool.or_true, Option.isSome_some, Option.getD_some, ck_true, Bool.false_eq_true, if_false]
    by_cases cf : yf.2 = 0
    · rw [if_pos (by simpa using cf), f3 cf]
      simp only [Option.bind_some, beq_self_eq_true, Bool.not_true, Bool.or_self, Bool.false_eq_true, if_false]
      by_cases cx : yx.2 = 0
      · rw [if_pos (by simpa using cx), x3 cx]
        simp only [Option.bind_some, beq_self_eq_true, Bool.not_true, Bool.or_self, Bool.false_eq_true, if_false]
        exact last
      · rw [if_neg (by simpa using cx)]; exact last
    · rw [if_neg (by simpa using cf)]
      by_cases cx : yx.2 = 0
      · rw [if_pos (by simpa using cx), x3 cx]
        simp only [Option.bind_some, beq_self_eq_true, Bool.not_true, Bool.or_self, Bool.false_eq_true, if_false]
        exact last
      · rw [if_neg (by simpa using cx)]; exact last

end Go.Proofs.Ytcfjogkgmkagiaa
