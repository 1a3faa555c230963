/- What typed forms say: the texts of dates. No condition. -/
import Derived.Test.YtmpmmodbigjdgaaDoorHDate
import Derived.Test.YtmpmmodbigjdgaaDoorHDecV
namespace Go.Proofs.YtmpmmodbigjdgaaDoor
open Go Go.RowKit
set_option linter.unusedSimpArgs false
set_option linter.unusedVariables false

def dg (n : Nat) : UInt8 := UInt8.ofNat (48 + n)
def d2 (n : Nat) : List UInt8 := [dg (n / 10), dg (n % 10)]
def d4 (n : Nat) : List UInt8 := [dg (n / 1000), dg (n / 100 % 10), dg (n / 10 % 10), dg (n % 10)]

theorem dec1 {n : Nat} (h : n < 10) : Lib.decDigits n = [dg n] := Lib.decDigits_one h
theorem dec2 {n : Nat} (h : ¬ n < 10) : Lib.decDigits n = Lib.decDigits (n / 10) ++ [dg (n % 10)] := by rw [Lib.decDigits, dif_neg h]; rfl

theorem padded_loop (k : Nat) (hk : k ≤ 100) (s : List UInt8) (hs : s.length ≤ 100) : whileE (impl_padded_l1 (k : Int)) s = some (List.replicate (k - s.length) 48 ++ s) := by
  generalize hm : k - s.length = m
  induction m generalizing s with
  | zero =>
    refine whileE_done ?_
    have : ¬ (s.length : Int) < (k : Int) := by omega
    simp [impl_padded_l1, this]
  | succ m ih =>
    have hlt : (s.length : Int) < (k : Int) := by omega
    rw [whileE_next (s' := [48] ++ s) (by
      simp only [impl_padded_l1, hlt, decide_true, if_true]
      rw [catOk_of (by simp; omega), ck_true]), ih ([48] ++ s) (by simp; omega) (by simp; omega)]
    rw [List.replicate_succ', List.append_assoc]

theorem padded_is {n : Nat} {k : Nat} (hk : k ≤ 100) (h : n ≤ 1000000000) : impl_padded (n : Int) (k : Int) = some (List.replicate (k - (Lib.decDigits n).length) 48 ++ Lib.decDigits n) := by
  unfold impl_padded
  have hl := decDigits_len (u := n) (by omega)
  rw [Decimal_is (n := (n : Int)) ⟨by omega, by omega⟩, itoa_nat]
  simp only [Option.bind_some]
  rw [padded_loop k hk _ (by omega)]
  rfl

theorem padded2 {n : Nat} (h : n ≤ 99) : impl_padded (n : Int) 2 = some (d2 n) := by
  have := padded_is (n := n) (k := 2) (by omega) (by omega)
  rw [show ((2 : Nat) : Int) = 2 by rfl] at this
  rw [this]
  by_cases c : n < 10
  · rw [dec1 c]
    have e1 : n / 10 = 0 := by omega
    have e2 : n % 10 = n := by omega
    simp only [d2, e1, e2]; rfl
  · rw [dec2 c, dec1 (show n / 10 < 10 by omega)]; rfl

theorem padded4 {n : Nat} (h : n ≤ 9999) : impl_padded (n : Int) 4 = some (d4 n) := by
  have := padded_is (n := n) (k := 4) (by omega) (by omega)
  rw [show ((4 : Nat) : Int) = 4 by rfl] at this
  rw [this]
  by_cases c : n < 10
  · rw [dec1 c]
    have e1 : n / 10 % 10 = 0 := by omega
    have e2 : n % 10 = n := by omega
    have e3 : n / 100 % 10 = 0 := by omega
    have e4 : n / 1000 = 0 := by omega
    simp only [d4, e1, e2, e3, e4]; rfl
  · by_cases c2 : n < 100
    · rw [dec2 c, dec1 (show n / 10 < 10 by omega)]
      have e1 : n / 10 % 10 = n / 10 := by omega
      have e3 : n / 100 % 10 = 0 := by omega
      have e4 : n / 1000 = 0 := by omega
      simp only [d4, e1, e3, e4]; rfl
    · by_cases c3 : n < 1000
      · rw [dec2 c, dec2 (show ¬ n / 10 < 10 by omega), dec1 (show n / 10 / 10 < 10 by omega)]
        have e3 : n / 100 % 10 = n / 10 / 10 := by omega
        have e4 : n / 1000 = 0 := by omega
        simp only [d4, e3, e4]; rfl
      · rw [dec2 c, dec2 (show ¬ n / 10 < 10 by omega), dec2 (show ¬ n / 10 / 10 < 10 by omega), dec1 (show n / 10 / 10 / 10 < 10 by omega)]
        have e3 : n / 100 % 10 = n / 10 / 10 % 10 := by omega
        have e4 : n / 1000 = n / 10 / 10 / 10 := by omega
        simp only [d4, e3, e4]; rfl

theorem dec4 {n : Nat} (h : n ≤ 9999) (h1 : 1000 ≤ n) : Lib.decDigits n = d4 n := by
  rw [dec2 (show ¬ n < 10 by omega), dec2 (show ¬ n / 10 < 10 by omega), dec2 (show ¬ n / 10 / 10 < 10 by omega), dec1 (show n / 10 / 10 / 10 < 10 by omega)]
  have e3 : n / 100 % 10 = n / 10 / 10 % 10 := by omega
  have e4 : n / 1000 = n / 10 / 10 / 10 := by omega
  simp only [d4, e3, e4]; rfl

theorem l03Two_is {n : Nat} (h : n ≤ 99) : spec_l03Two (n : Int) = some (d2 n) := by
  unfold spec_l03Two
  have t1 : ((n : Int)).tdiv 10 = ((n / 10 : Nat) : Int) := by rw [td (by omega)]; omega
  have t2 : ((n : Int)).tmod 10 = ((n % 10 : Nat) : Int) := by rw [tm (by omega)]; omega
  rw [t1, t2, wrap_i64 (by omega) (by omega), nz_of (by decide), ck_true, l01Dec_is ⟨by omega, by omega⟩, l01Dec_is ⟨by omega, by omega⟩, itoa_nat, itoa_nat, dec1 (show n / 10 < 10 by omega), dec1 (show n % 10 < 10 by omega)]
  rfl

theorem l03Four_is {n : Nat} (h : n ≤ 9999) : spec_l03Four (n : Int) = some (d4 n) := by
  unfold spec_l03Four
  have t1 : ((n : Int)).tdiv 100 = ((n / 100 : Nat) : Int) := by rw [td (by omega)]; omega
  have t2 : ((n : Int)).tmod 100 = ((n % 100 : Nat) : Int) := by rw [tm (by omega)]; omega
  have t3 : (((n / 100 : Nat) : Int)).tmod 100 = ((n / 100 % 100 : Nat) : Int) := by rw [tm (by omega)]; omega
  rw [t1, t2, wrap_i64 (by omega) (by omega), t3, nz_of (by decide), ck_true, l03Two_is (by omega), l03Two_is (by omega)]
  simp only [Option.bind_some]
  have e1 : n / 100 % 100 / 10 = n / 1000 := by omega
  have e2 : n / 100 % 100 % 10 = n / 100 % 10 := by omega
  have e3 : n % 100 / 10 = n / 10 % 10 := by omega
  have e4 : n % 100 % 10 = n % 10 := by omega
  simp only [d2, d4, e1, e2, e3, e4]
  rfl

def textD (d : Date) : List UInt8 := (((d4 d.Year.toNat ++ [45]) ++ d2 d.Month.toNat) ++ [45]) ++ d2 d.Day.toNat

theorem impl_DateText_is (d : Date) : impl_DateText d = some (if validD d = true then textD d else []) := by
  unfold impl_DateText
  rw [impl_ValidDate_is, Option.bind_some]
  cases hv : validD d
  · simp
  · obtain ⟨⟨a, b, c, e, f⟩, g, i⟩ := validD_iff.1 hv
    have := mdP_pos d.Year d.Month
    have e1 : d.Year = ((d.Year.toNat : Nat) : Int) := by omega
    have e2 : d.Month = ((d.Month.toNat : Nat) : Int) := by omega
    have e3 : d.Day = ((d.Day.toNat : Nat) : Int) := by omega
    have p1 := padded4 (n := d.Year.toNat) (by omega)
    have p2 := padded2 (n := d.Month.toNat) (by omega)
    have p3 := padded2 (n := d.Day.toNat) (by omega)
    rw [← e1] at p1; rw [← e2] at p2; rw [← e3] at p3
    rw [p1, p2, p3]
    rfl

theorem l03Text_is {d : Date} (hv : validD d = true) : spec_l03Text d = some (textD d) := by
  unfold spec_l03Text
  obtain ⟨⟨a, b, c, e, f⟩, g, i⟩ := validD_iff.1 hv
  have := mdP_pos d.Year d.Month
  have e1 : d.Year = ((d.Year.toNat : Nat) : Int) := by omega
  have e2 : d.Month = ((d.Month.toNat : Nat) : Int) := by omega
  have e3 : d.Day = ((d.Day.toNat : Nat) : Int) := by omega
  have p1 : spec_l01Dec d.Year = some (d4 d.Year.toNat) := by
    rw [l01Dec_is ⟨by omega, by omega⟩]
    congr 1
    rw [← dec4 (n := d.Year.toNat) (by omega) (by omega), ← itoa_nat, ← e1]
  have p2 := l03Two_is (n := d.Month.toNat) (by omega)
  have p3 := l03Two_is (n := d.Day.toNat) (by omega)
  rw [← e2] at p2; rw [← e3] at p3
  rw [p1, p2, p3]
  rfl

theorem spec_DateText_is (d : Date) : spec_DateText d = some (if validD d = true then textD d else []) := by
  unfold spec_DateText
  rw [spec_ValidDate_is, Option.bind_some]
  cases hv : validD d
  · simp
  · rw [l03Text_is hv]; rfl

/-! ### Reading -/

theorem l03Digits_is {s : List UInt8} (h : s.length ≤ 18) : spec_l03Digits s = some (if s.all dig = true then (((valF 0 s : Nat) : Int), true) else (0, false)) := by
  unfold spec_l03Digits
  have e : spec_l03Digits_l1 s = spec_l01Number_l1 s s := id rfl
  have := num_loop s s h s 0 0 rfl (by simp) (by simp)
  simp only [Int.ofNat_zero] at this
  have t2 : whileE (spec_l01Number_l1 s s) (0, 0) = _ := this
  rw [e, t2]
  simp only [Option.bind_some]
  by_cases c : s.all dig = true
  · simp [c]
  · simp [c]

/-- A byte as twoDigits takes it. -/
def wd (c : UInt8) : Int := IntKind.u8.wrap ((c.toNat : Int) - 48)

theorem wd_range (c : UInt8) : 0 ≤ wd c ∧ wd c ≤ 255 := by
  unfold wd IntKind.wrap IntKind.bits; simp [IntKind.signed]; omega

theorem wd_dig {c : UInt8} (h : dig c = true) : wd c = ((c.toNat - 48 : Nat) : Int) := by
  have hc := dig_iff.1 h
  unfold wd
  rw [show ((c.toNat : Int) - 48) = ((c.toNat - 48 : Nat) : Int) by omega]
  exact wrap_u8 (by omega) (by omega)

theorem twoDigits_is (a b : UInt8) : impl_twoDigits [a, b] = some (wd a * 10 + wd b) := by
  unfold impl_twoDigits
  have ha := wd_range a
  have hb := wd_range b
  show ck true (ck true (some (IntKind.i64.wrap ((IntKind.i64.wrap ((IntKind.i64.wrap (wd a)) * 10)) + (IntKind.i64.wrap (wd b)))))) = _
  rw [ck_true, ck_true, wrap_i64 (n := wd a) (by omega) (by omega), wrap_i64 (n := wd a * 10) (by omega) (by omega), wrap_i64 (n := wd b) (by omega) (by omega), wrap_i64 (by omega) (by omega)]

theorem dig_dg {n : Nat} (h : n < 10) : dig (dg n) = true ∧ (dg n).toNat = 48 + n := by
  have : (dg n).toNat = 48 + n := by
    unfold dg
    rw [UInt8.toNat_ofNat']
    omega
  exact ⟨dig_iff.2 (by omega), this⟩

theorem dg_dig {c : UInt8} (h : dig c = true) {n : Nat} (hn : n = c.toNat - 48) : dg n = c := by
  have hc := dig_iff.1 h
  subst hn
  unfold dg
  rw [show 48 + (c.toNat - 48) = c.toNat by omega]
  exact UInt8.ofNat_toNat

theorem len10 {s : List UInt8} (h : s.length = 10) : ∃ a b c d e f g i j k, s = [a, b, c, d, e, f, g, i, j, k] := by
  match s, h with
  | [a, b, c, d, e, f, g, i, j, k], _ => exact ⟨a, b, c, d, e, f, g, i, j, k, rfl⟩

theorem val2 (a b : UInt8) : valF 0 [a, b] = (a.toNat - 48) * 10 + (b.toNat - 48) := by
  simp only [valF_cons, valF_nil]; omega
theorem val4 (a b c d : UInt8) : valF 0 [a, b, c, d] = (a.toNat - 48) * 1000 + (b.toNat - 48) * 100 + (c.toNat - 48) * 10 + (d.toNat - 48) := by
  simp only [valF_cons, valF_nil]; omega

theorem textD_len (d : Date) : (textD d).length = 10 := rfl

theorem textD_is {d : Date} {a b c e f g i j k l : UInt8} (hv : validD d = true) (h : textD d = [a, b, c, e, f, g, i, j, k, l]) :
    f = 45 ∧ j = 45 ∧ ([a, b, c, e].all dig = true ∧ [g, i].all dig = true ∧ [k, l].all dig = true) ∧ d.Year = valF 0 [a, b, c, e] ∧ d.Month = valF 0 [g, i] ∧ d.Day = valF 0 [k, l] := by
  obtain ⟨⟨v1, v2, v3, v4, v5⟩, v6, v7⟩ := validD_iff.1 hv
  have := mdP_pos d.Year d.Month
  have h' : [dg (d.Year.toNat / 1000), dg (d.Year.toNat / 100 % 10), dg (d.Year.toNat / 10 % 10), dg (d.Year.toNat % 10), 45, dg (d.Month.toNat / 10), dg (d.Month.toNat % 10), 45, dg (d.Day.toNat / 10), dg (d.Day.toNat % 10)] = [a, b, c, e, f, g, i, j, k, l] := h
  simp only [List.cons.injEq, and_true] at h'
  obtain ⟨rfl, rfl, rfl, rfl, rfl, rfl, rfl, rfl, rfl, rfl⟩ := h'
  obtain ⟨x1, y1⟩ := dig_dg (n := d.Year.toNat / 1000) (by omega)
  obtain ⟨x2, y2⟩ := dig_dg (n := d.Year.toNat / 100 % 10) (by omega)
  obtain ⟨x3, y3⟩ := dig_dg (n := d.Year.toNat / 10 % 10) (by omega)
  obtain ⟨x4, y4⟩ := dig_dg (n := d.Year.toNat % 10) (by omega)
  obtain ⟨x5, y5⟩ := dig_dg (n := d.Month.toNat / 10) (by omega)
  obtain ⟨x6, y6⟩ := dig_dg (n := d.Month.toNat % 10) (by omega)
  obtain ⟨x7, y7⟩ := dig_dg (n := d.Day.toNat / 10) (by omega)
  obtain ⟨x8, y8⟩ := dig_dg (n := d.Day.toNat % 10) (by omega)
  refine ⟨rfl, rfl, ⟨by simp [x1, x2, x3, x4], by simp [x5, x6], by simp [x7, x8]⟩, ?_, ?_, ?_⟩
  · rw [val4, y1, y2, y3, y4]; omega
  · rw [val2, y5, y6]; omega
  · rw [val2, y7, y8]; omega

theorem textD_of {d : Date} {a b c e g i k l : UInt8} (h1 : [a, b, c, e].all dig = true) (h2 : [g, i].all dig = true) (h3 : [k, l].all dig = true) (e1 : d.Year = valF 0 [a, b, c, e]) (e2 : d.Month = valF 0 [g, i]) (e3 : d.Day = valF 0 [k, l]) :
    textD d = [a, b, c, e, 45, g, i, 45, k, l] := by
  simp only [List.all_cons, List.all_nil, Bool.and_true, Bool.and_eq_true] at h1 h2 h3
  obtain ⟨x1, x2, x3, x4⟩ := h1
  obtain ⟨x5, x6⟩ := h2
  obtain ⟨x7, x8⟩ := h3
  have y1 := dig_iff.1 x1
  have y2 := dig_iff.1 x2
  have y3 := dig_iff.1 x3
  have y4 := dig_iff.1 x4
  have y5 := dig_iff.1 x5
  have y6 := dig_iff.1 x6
  have y7 := dig_iff.1 x7
  have y8 := dig_iff.1 x8
  rw [val4] at e1; rw [val2] at e2 e3
  show [dg (d.Year.toNat / 1000), dg (d.Year.toNat / 100 % 10), dg (d.Year.toNat / 10 % 10), dg (d.Year.toNat % 10), 45, dg (d.Month.toNat / 10), dg (d.Month.toNat % 10), 45, dg (d.Day.toNat / 10), dg (d.Day.toNat % 10)] = _
  rw [dg_dig x1 (by omega), dg_dig x2 (by omega), dg_dig x3 (by omega), dg_dig x4 (by omega), dg_dig x5 (by omega), dg_dig x6 (by omega), dg_dig x7 (by omega), dg_dig x8 (by omega)]

theorem ReadDate_same (s : List UInt8) : ∃ y, impl_ReadDate s = some y ∧ spec_ReadDate s = some y ∧ (∀ d, validD d = true → s = textD d → y = (d, true)) ∧ (s = [] → y.2 = false) := by
  by_cases h10 : s.length = 10
  · obtain ⟨a, b, c, e, f, g, i, j, k, l, rfl⟩ := len10 h10
    have ra := wd_range a
    have rb := wd_range b
    have rc := wd_range c
    have re := wd_range e
    have ei : impl_ReadDate [a, b, c, e, f, g, i, j, k, l] = (impl_DateText (Date.mk (IntKind.i64.wrap ((IntKind.i64.wrap ((wd a * 10 + wd b) * 100)) + (wd c * 10 + wd e))) (wd g * 10 + wd i) (wd k * 10 + wd l))).bind fun y_10 =>
        if (!(y_10 == [a, b, c, e, f, g, i, j, k, l])) = true then some ((Date.mk 0 0 0), false) else some ((Date.mk (IntKind.i64.wrap ((IntKind.i64.wrap ((wd a * 10 + wd b) * 100)) + (wd c * 10 + wd e))) (wd g * 10 + wd i) (wd k * 10 + wd l)), true) := by
      generalize hL : [a, b, c, e, f, g, i, j, k, l] = L
      have k0 : ((L.length : Int) == 10) = true := by rw [← hL]; rfl
      have k1 : cutOk 0 2 L.length = true := by rw [← hL]; rfl
      have k2 : cutOk 2 4 L.length = true := by rw [← hL]; rfl
      have k3 : cutOk 5 7 L.length = true := by rw [← hL]; rfl
      have k4 : cutOk 8 (L.length : Int) L.length = true := by rw [← hL]; rfl
      have c1 : cut L 0 2 = [a, b] := by rw [← hL]; rfl
      have c2 : cut L 2 4 = [c, e] := by rw [← hL]; rfl
      have c3 : cut L 5 7 = [g, i] := by rw [← hL]; rfl
      have c4 : cut L 8 (L.length : Int) = [k, l] := by rw [← hL]; rfl
      unfold impl_ReadDate
      simp only [k0, k1, k2, k3, k4, c1, c2, c3, c4, ck_true, twoDigits_is, Option.bind_some, Bool.not_true, Bool.false_eq_true, if_false]
    rw [wrap_i64 (n := (wd a * 10 + wd b) * 100) (by omega) (by omega), wrap_i64 (by omega) (by omega), impl_DateText_is, Option.bind_some] at ei
    generalize hD : Date.mk ((wd a * 10 + wd b) * 100 + (wd c * 10 + wd e)) (wd g * 10 + wd i) (wd k * 10 + wd l) = D at ei
    have es : spec_ReadDate [a, b, c, e, f, g, i, j, k, l] = some (if (f = 45 ∧ j = 45) ∧ ([a, b, c, e].all dig = true ∧ [g, i].all dig = true ∧ [k, l].all dig = true) ∧ validD (Date.mk (valF 0 [a, b, c, e]) (valF 0 [g, i]) (valF 0 [k, l])) = true then (Date.mk (valF 0 [a, b, c, e]) (valF 0 [g, i]) (valF 0 [k, l]), true) else (Date.mk 0 0 0, false)) := by
      generalize hL : [a, b, c, e, f, g, i, j, k, l] = L
      have k0 : ((L.length : Int) == 10) = true := by rw [← hL]; rfl
      have k1 : cutOk 0 4 L.length = true := by rw [← hL]; rfl
      have k2 : ixOk 4 L.length = true := by rw [← hL]; rfl
      have k3 : cutOk 5 7 L.length = true := by rw [← hL]; rfl
      have k4 : cutOk 8 (L.length : Int) L.length = true := by rw [← hL]; rfl
      have k5 : ixOk 7 L.length = true := by rw [← hL]; rfl
      have c1 : cut L 0 4 = [a, b, c, e] := by rw [← hL]; rfl
      have c3 : cut L 5 7 = [g, i] := by rw [← hL]; rfl
      have c4 : cut L 8 (L.length : Int) = [k, l] := by rw [← hL]; rfl
      have g1 : L.getD 4 0 = f := by rw [← hL]; rfl
      have g2 : L.getD 7 0 = j := by rw [← hL]; rfl
      unfold spec_ReadDate
      simp only [k0, k1, k2, k3, k4, k5, c1, c3, c4, g1, g2, ck_true, Bool.not_true, Bool.false_or, Bool.or_true]
      simp only [l03Digits_is (show [a, b, c, e].length ≤ 18 by simp), l03Digits_is (show [g, i].length ≤ 18 by simp), l03Digits_is (show [k, l].length ≤ 18 by simp), Option.bind_some]
      have hf : ∀ x : UInt8, ((x.toNat : Int) == 45) = decide (x = 45) := fun x => by
        rw [Bool.eq_iff_iff, beq_iff_eq, decide_eq_true_eq]
        constructor
        · intro h; exact UInt8.toNat_inj.1 (by show x.toNat = 45; omega)
        · rintro rfl; rfl
      rw [hf, hf]
      by_cases c1 : f = 45 ∧ j = 45
      · rw [if_neg (by simp [c1.1, c1.2])]
        generalize [a, b, c, e].all dig = q1
        generalize [g, i].all dig = q2
        generalize [k, l].all dig = q3
        have bad : ∀ (q1 q2 q3 : Bool), (q1 && q2 && q3) = false → ((!(if q1 = true then (((valF 0 [a, b, c, e] : Nat) : Int), true) else (0, false)).2) || (!(if q2 = true then (((valF 0 [g, i] : Nat) : Int), true) else (0, false)).2) || (!(if q3 = true then (((valF 0 [k, l] : Nat) : Int), true) else (0, false)).2)) = true := by
          intro q1 q2 q3 h
          cases q1 <;> cases q2 <;> cases q3 <;> first | rfl | cases h
        cases hq : (q1 && q2 && q3)
        · rw [bad q1 q2 q3 hq]
          have : ¬ ((f = 45 ∧ j = 45) ∧ (q1 = true ∧ q2 = true ∧ q3 = true) ∧ validD (Date.mk (valF 0 [a, b, c, e]) (valF 0 [g, i]) (valF 0 [k, l])) = true) := by
            rintro ⟨_, ⟨rfl, rfl, rfl⟩, _⟩; cases hq
          rw [if_neg this]
          simp [ck_true]
        · simp only [Bool.and_eq_true] at hq
          obtain ⟨⟨rfl, rfl⟩, rfl⟩ := hq
          simp only [if_true, Bool.not_true, Bool.or_self, Bool.false_or, Bool.not_false, Bool.true_and]
          rw [spec_ValidDate_is]
          simp only [Option.isSome_some, Option.getD_some, Bool.or_true, ck_true]
          cases hv : validD (Date.mk (valF 0 [a, b, c, e]) (valF 0 [g, i]) (valF 0 [k, l]))
          · simp
          · simp [c1.1, c1.2]
      · rw [if_pos (by
          by_cases c3 : f = 45
          · have : ¬ j = 45 := fun c4 => c1 ⟨c3, c4⟩
            simp [this]
          · simp [c3]), if_neg (fun c => c1 c.1)]
    have hDv : ([a, b, c, e].all dig = true ∧ [g, i].all dig = true ∧ [k, l].all dig = true) → D = Date.mk (valF 0 [a, b, c, e]) (valF 0 [g, i]) (valF 0 [k, l]) := by
      rintro ⟨h1, h2, h3⟩
      simp only [List.all_cons, List.all_nil, Bool.and_true, Bool.and_eq_true] at h1 h2 h3
      obtain ⟨x1, x2, x3, x4⟩ := h1
      obtain ⟨x5, x6⟩ := h2
      obtain ⟨x7, x8⟩ := h3
      rw [← hD, wd_dig x1, wd_dig x2, wd_dig x3, wd_dig x4, wd_dig x5, wd_dig x6, wd_dig x7, wd_dig x8, val4, val2, val2]
      congr 1
      · omega
    by_cases hA : validD D = true ∧ textD D = [a, b, c, e, f, g, i, j, k, l]
    · obtain ⟨hv, ht⟩ := hA
      obtain ⟨q1, q2, q3, q4, q5, q6⟩ := textD_is hv ht
      have e0 := hDv q3
      refine ⟨(D, true), ?_, ?_, ?_, fun h => by cases h⟩
      · rw [ei, if_pos hv, ht]; simp
      · rw [es, if_pos ⟨⟨q1, q2⟩, q3, by rw [← e0]; exact hv⟩, e0]
      · intro d hd hs
        obtain ⟨p1, p2, p3, p4, p5, p6⟩ := textD_is hd hs.symm
        have : d = D := by
          cases d; cases D
          simp only at p4 p5 p6 q4 q5 q6
          rw [p4, p5, p6, q4, q5, q6]
        rw [this]
    · refine ⟨(Date.mk 0 0 0, false), ?_, ?_, ?_, fun h => by cases h⟩
      · rw [ei]
        by_cases hv : validD D = true
        · have : ¬ textD D = [a, b, c, e, f, g, i, j, k, l] := fun c => hA ⟨hv, c⟩
          rw [if_pos hv, if_pos (by simpa using this)]
        · rw [if_neg hv, if_pos (by simp)]
      · rw [es, if_neg]
        rintro ⟨⟨rfl, rfl⟩, q3, hv⟩
        have e0 := hDv q3
        rw [← e0] at hv
        exact hA ⟨hv, textD_of q3.1 q3.2.1 q3.2.2 (by rw [e0]) (by rw [e0]) (by rw [e0])⟩
      · intro d hd hs
        exfalso
        obtain ⟨p1, p2, p3, p4, p5, p6⟩ := textD_is hd hs.symm
        have e0 := hDv p3
        have : d = D := by
          rw [e0]; cases d
          simp only at p4 p5 p6
          rw [p4, p5, p6]
        exact hA ⟨by rw [← this]; exact hd, by rw [← this]; exact hs.symm⟩
  · have hb : ((s.length : Int) == 10) = false := by rw [beq_eq_false_iff_ne]; omega
    refine ⟨(Date.mk 0 0 0, false), ?_, ?_, ?_, fun _ => rfl⟩
    · unfold impl_ReadDate; simp [hb]
    · unfold spec_ReadDate; simp [hb, ck_true]
    · intro d _ hs; exact absurd (by rw [hs]; exact textD_len d) h10

end Go.Proofs.YtmpmmodbigjdgaaDoor
