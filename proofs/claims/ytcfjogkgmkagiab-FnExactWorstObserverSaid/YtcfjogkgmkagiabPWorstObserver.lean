/- The plain law of WorstObserver. No condition. -/
import Derived.Test.YtcfjogkgmkagiabHShares
namespace Go.Proofs.Ytcfjogkgmkagiab
open Go Go.RowKit
set_option linter.unusedSimpArgs false
set_option linter.unusedVariables false

theorem code_lenW {l : List Estimate} {f : List Fault} (h : (if (goodE l && decide (l.length ≤ 100)) = true then (if goodF l.length f = true then (0 : Int) else 2) else 1) = 0) : l.length ≤ 100 := by
  split at h
  · rename_i c
    simp only [Bool.and_eq_true, decide_eq_true_eq] at c
    exact c.2
  · omega

/-- Fractions in lowest terms compare as the numbers that they are made of. -/
theorem frac_mul {a b : Int} (ha : 0 ≤ a) (h1 : a ≤ 10000) (hb : 1 ≤ b) (h2 : b ≤ 10000) : ∃ g, 1 ≤ g ∧ a = g * (fracN a b).Num ∧ b = g * (fracN a b).Den ∧ 0 ≤ (fracN a b).Num ∧ (fracN a b).Num ≤ 10000 ∧ 1 ≤ (fracN a b).Den ∧ (fracN a b).Den ≤ 10000 := by
  obtain ⟨_, g1, ⟨x, hx⟩, ⟨y, hy⟩⟩ := gcdN_all ha hb
  refine ⟨gcdN a b, g1, ?_⟩
  have key : ∀ g x c : Int, 1 ≤ g → 0 ≤ c → c = g * x → c.tdiv g = x := by
    intro g x c h0 hc e
    rw [Int.tdiv_eq_ediv_of_nonneg hc, e, Int.mul_ediv_cancel_left _ (by omega)]
  have e1 : (fracN a b).Num = x := key _ _ _ g1 ha hx
  have e2 : (fracN a b).Den = y := key _ _ _ g1 (by omega) hy
  rw [e1, e2]
  generalize gcdN a b = g at g1 hx hy
  have x0 : 0 ≤ x := by
    rcases Int.lt_or_le x 0 with c | c
    · have := Int.mul_lt_mul_of_pos_left c (show 0 < g by omega); omega
    · exact c
  have y0 : 1 ≤ y := by
    rcases Int.lt_or_le y 1 with c | c
    · have : y ≤ 0 := by omega
      have := Int.mul_le_mul_of_nonneg_left this (show 0 ≤ g by omega); omega
    · exact c
  have xg := Int.mul_le_mul_of_nonneg_right g1 x0
  have yg := Int.mul_le_mul_of_nonneg_right g1 (show 0 ≤ y by omega)
  exact ⟨hx, hy, x0, by omega, y0, by omega⟩

theorem frac_lt {a b c d : Int} (ha : 0 ≤ a) (h1 : a ≤ 10000) (hb : 1 ≤ b) (h2 : b ≤ 10000) (hc : 0 ≤ c) (h3 : c ≤ 10000) (hd : 1 ≤ d) (h4 : d ≤ 10000) :
    impl_Fraction_less (fracN a b) (fracN c d) = some (decide (a * d < c * b)) := by
  obtain ⟨g, g1, a1, b1, n0, n1, d0, d1⟩ := frac_mul ha h1 hb h2
  obtain ⟨k, k1, c1, e1, m0, m1, p0, p1⟩ := frac_mul hc h3 hd h4
  unfold impl_Fraction_less
  generalize (fracN a b).Num = A at *
  generalize (fracN a b).Den = B at *
  generalize (fracN c d).Num = C at *
  generalize (fracN c d).Den = D at *
  have q1 : 0 ≤ A * D := Int.mul_nonneg n0 (by omega)
  have q2 : A * D ≤ 10000 * 10000 := Int.mul_le_mul n1 p1 (by omega) (by omega)
  have q3 : 0 ≤ C * B := Int.mul_nonneg m0 (by omega)
  have q4 : C * B ≤ 10000 * 10000 := Int.mul_le_mul m1 d1 (by omega) (by omega)
  rw [wrap_i64 (n := A * D) (by omega) (by omega), wrap_i64 (n := C * B) (by omega) (by omega)]
  have hgk : 0 < g * k := Int.mul_pos (by omega) (by omega)
  have r1 : a * d = (g * k) * (A * D) := by rw [a1, e1]; simp only [Int.mul_assoc, Int.mul_comm, Int.mul_left_comm]
  have r2 : c * b = (g * k) * (C * B) := by rw [c1, b1]; simp only [Int.mul_assoc, Int.mul_comm, Int.mul_left_comm]
  congr 1
  rw [r1, r2]
  rw [decide_eq_decide]
  exact ⟨fun h => Int.mul_lt_mul_of_pos_left h hgk, fun h => Int.lt_of_mul_lt_mul_left h (by omega)⟩

section
variable {l : List Estimate} {f : List Fault} {ns : List Bs}

/-- What both loops know. -/
def RelW (l : List Estimate) (f : List Fault) (ns : List Bs) (best : Int) (worst : Bs) (most : Fraction) : Prop :=
  (best = -1 ∧ worst = [] ∧ most = ⟨0, 1⟩) ∨ ∃ k : Nat, ∃ h : k < ns.length, best = (k : Int) ∧ worst = ns[k] ∧ most = shareN l f ns[k] ∧ 1 ≤ cntN (badP l f ns[k]) l.length

theorem worst_loop (hl : l.length ≤ 100) (hn : ns.length ≤ 10000) (hm : ∀ x, x ∈ ns ↔ x ∈ obsL l) : ∀ (d i : Nat) (best : Int) (worst : Bs) (most : Fraction), i + d = ns.length → RelW l f ns best worst most →
    ∃ best' worst' most', whileE (spec_WorstObserver_l1 ns (ns.map (fun n => cntN (badP l f n) l.length)) (ns.map (fun n => cntN (allP l n) l.length))) (best, (i : Int)) = some best' ∧
      whileE (impl_WorstObserver_l1 ns (ns.map (shareN l f)) ((ns.map (shareN l f)).length : Int)) (worst, most, (i : Int)) = some (worst', most') ∧ RelW l f ns best' worst' most'
  | 0, i, best, worst, most, hd, hr => by
    obtain rfl : i = ns.length := by omega
    exact ⟨best, worst, most, whileE_done (by simp [spec_WorstObserver_l1]), whileE_done (by simp [impl_WorstObserver_l1]), hr⟩
  | d + 1, i, best, worst, most, hd, hr => by
    have hi : i < ns.length := by omega
    have inb : ∀ k (h : k < ns.length), 0 ≤ cntN (badP l f ns[k]) l.length ∧ cntN (badP l f ns[k]) l.length ≤ 10000 ∧ 1 ≤ cntN (allP l ns[k]) l.length ∧ cntN (allP l ns[k]) l.length ≤ 10000 := fun k h => by
      have a1 := all_pos ((hm _).1 (List.getElem_mem h))
      have a2 := cntN_in (allP l ns[k]) l.length
      have b2 := cntN_in (badP l f ns[k]) l.length
      omega
    have gb : ∀ k (h : k < ns.length), (ns.map (fun n => cntN (badP l f n) l.length)).getD k default = cntN (badP l f ns[k]) l.length := fun k h => by rw [getD_lt (by simpa using h)]; simp
    have ga : ∀ k (h : k < ns.length), (ns.map (fun n => cntN (allP l n) l.length)).getD k default = cntN (allP l ns[k]) l.length := fun k h => by rw [getD_lt (by simpa using h)]; simp
    have gs : (ns.map (shareN l f)).getD i default = shareN l f ns[i] := by rw [getD_lt (by simpa using hi)]; simp
    have xb : ∀ k, k < ns.length → ixOk (k : Int) (ns.map (fun n => cntN (badP l f n) l.length)).length = true := fun k h => by rw [ixOk_nat]; simpa using h
    have xa : ∀ k, k < ns.length → ixOk (k : Int) (ns.map (fun n => cntN (allP l n) l.length)).length = true := fun k h => by rw [ixOk_nat]; simpa using h
    have xs : ixOk (i : Int) (ns.map (shareN l f)).length = true := by rw [ixOk_nat]; simpa using hi
    have lt1 : decide ((i : Int) < (ns.length : Int)) = true := decide_eq_true (by omega)
    have lt2 : decide ((i : Int) < ((ns.map (shareN l f)).length : Int)) = true := decide_eq_true (by simp; omega)
    obtain ⟨i1, i2, i3, i4⟩ := inb i hi
    -- the two conditions agree
    obtain ⟨c, hc, hs, him⟩ : ∃ c : Bool, (c = true → 1 ≤ cntN (badP l f ns[i]) l.length) ∧
        spec_WorstObserver_l1 ns (ns.map (fun n => cntN (badP l f n) l.length)) (ns.map (fun n => cntN (allP l n) l.length)) (best, (i : Int)) = some (.inl (if c = true then (i : Int) else best, ((i + 1 : Nat) : Int))) ∧
        impl_WorstObserver_l1 ns (ns.map (shareN l f)) ((ns.map (shareN l f)).length : Int) (worst, most, (i : Int)) = some (.inl (if c = true then ns[i] else worst, if c = true then shareN l f ns[i] else most, ((i + 1 : Nat) : Int))) := by
      rcases hr with ⟨rfl, rfl, rfl⟩ | ⟨k, hk, rfl, rfl, rfl, hk1⟩
      · refine ⟨decide (0 < cntN (badP l f ns[i]) l.length), fun h => by have := of_decide_eq_true h; omega, ?_, ?_⟩
        · have e1 : decide ((-1 : Int) < 0) = true := rfl
          simp only [spec_WorstObserver_l1, lt1, if_true, xb i hi, ck_true, Int.toNat_natCast, gb i hi, e1, Bool.not_true, Bool.and_false, Bool.not_false, Bool.true_or, Bool.and_true, wrap_nat1 (show i < 9223372036854775807 by omega)]
          cases decide (0 < cntN (badP l f ns[i]) l.length) <;> rfl
        · obtain ⟨g, g1, a1, b1, n0, n1, d0, d1⟩ := frac_mul i1 i2 i3 i4
          have e2 : impl_Fraction_less ⟨0, 1⟩ (shareN l f ns[i]) = some (decide (0 < cntN (badP l f ns[i]) l.length)) := by
            unfold impl_Fraction_less shareN
            simp only [Int.zero_mul, Int.mul_one]
            rw [wrap_i64 (n := 0) (by omega) (by omega), wrap_i64 (by omega) (by omega)]
            congr 1
            rw [decide_eq_decide]
            generalize (fracN (cntN (badP l f ns[i]) l.length) (cntN (allP l ns[i]) l.length)).Num = A at *
            constructor
            · intro h
              have := Int.mul_pos (show 0 < g by omega) h
              omega
            · intro h
              rcases Int.lt_or_le 0 A with c | c
              · exact c
              · have : A = 0 := by omega
                rw [this, Int.mul_zero] at a1; omega
          simp only [impl_WorstObserver_l1, lt2, if_true, xs, ck_true, Int.toNat_natCast, gs, e2, Option.bind_some, ixOk_nat, hi, decide_true, getD_lt hi, wrap_nat1 (show i < 9223372036854775807 by omega)]
          cases decide (0 < cntN (badP l f ns[i]) l.length) <;> rfl
      · obtain ⟨k1, k2, k3, k4⟩ := inb k hk
        have p1 : 0 ≤ cntN (badP l f ns[k]) l.length * cntN (allP l ns[i]) l.length := Int.mul_nonneg k1 (by omega)
        have p2 : cntN (badP l f ns[k]) l.length * cntN (allP l ns[i]) l.length ≤ 10000 * 10000 := Int.mul_le_mul k2 i4 (by omega) (by omega)
        have p3 : 0 ≤ cntN (badP l f ns[i]) l.length * cntN (allP l ns[k]) l.length := Int.mul_nonneg i1 (by omega)
        have p4 : cntN (badP l f ns[i]) l.length * cntN (allP l ns[k]) l.length ≤ 10000 * 10000 := Int.mul_le_mul i2 k4 (by omega) (by omega)
        refine ⟨decide (cntN (badP l f ns[k]) l.length * cntN (allP l ns[i]) l.length < cntN (badP l f ns[i]) l.length * cntN (allP l ns[k]) l.length), fun h => ?_, ?_, ?_⟩
        · have h := of_decide_eq_true h
          rcases Int.lt_or_le 0 (cntN (badP l f ns[i]) l.length) with c | c
          · omega
          · have : cntN (badP l f ns[i]) l.length = 0 := by omega
            rw [this, Int.zero_mul] at h; omega
        · have e1 : decide ((k : Int) < 0) = false := decide_eq_false (by omega)
          simp only [spec_WorstObserver_l1, lt1, if_true, xb i hi, xb k hk, xa i hi, xa k hk, ck_true, Int.toNat_natCast, gb i hi, gb k hk, ga i hi, ga k hk, e1, Bool.or_true, Bool.false_or, wrap_nat1 (show i < 9223372036854775807 by omega)]
          rw [wrap_i64 (n := cntN (badP l f ns[k]) l.length * cntN (allP l ns[i]) l.length) (by omega) (by omega), wrap_i64 (n := cntN (badP l f ns[i]) l.length * cntN (allP l ns[k]) l.length) (by omega) (by omega)]
          have e2 : (decide (0 < cntN (badP l f ns[i]) l.length) && decide (cntN (badP l f ns[k]) l.length * cntN (allP l ns[i]) l.length < cntN (badP l f ns[i]) l.length * cntN (allP l ns[k]) l.length)) = decide (cntN (badP l f ns[k]) l.length * cntN (allP l ns[i]) l.length < cntN (badP l f ns[i]) l.length * cntN (allP l ns[k]) l.length) := by
            rcases Int.lt_or_le 0 (cntN (badP l f ns[i]) l.length) with c | c
            · simp [c]
            · have hz : cntN (badP l f ns[i]) l.length = 0 := by omega
              rw [hz, Int.zero_mul]
              have : ¬ cntN (badP l f ns[k]) l.length * cntN (allP l ns[i]) l.length < 0 := by omega
              simp [this]
          rw [e2]
          cases decide (cntN (badP l f ns[k]) l.length * cntN (allP l ns[i]) l.length < cntN (badP l f ns[i]) l.length * cntN (allP l ns[k]) l.length) <;> rfl
        · have e2 := frac_lt k1 k2 k3 k4 i1 i2 i3 i4
          simp only [impl_WorstObserver_l1, lt2, if_true, xs, ck_true, Int.toNat_natCast, gs, show shareN l f ns[k] = fracN (cntN (badP l f ns[k]) l.length) (cntN (allP l ns[k]) l.length) from rfl, show shareN l f ns[i] = fracN (cntN (badP l f ns[i]) l.length) (cntN (allP l ns[i]) l.length) from rfl, e2, Option.bind_some, ixOk_nat, hi, decide_true, getD_lt hi, wrap_nat1 (show i < 9223372036854775807 by omega)]
          cases decide (cntN (badP l f ns[k]) l.length * cntN (allP l ns[i]) l.length < cntN (badP l f ns[i]) l.length * cntN (allP l ns[k]) l.length) <;> rfl
    rw [whileE_next hs, whileE_next him]
    refine worst_loop hl hn hm d (i + 1) _ _ _ (by omega) ?_
    cases c
    · exact hr
    · exact .inr ⟨i, hi, rfl, rfl, rfl, hc rfl⟩
end

theorem WorstObserver_same {l : List Estimate} {f : List Fault} (hl : l.length ≤ 1048576) (hf : f.length ≤ 1048576) : ∃ r c, spec_WorstObserver l f = some (r, c) ∧ impl_WorstObserver l f = some (r, c) := by
  unfold spec_WorstObserver impl_WorstObserver
  rw [code_is (by omega) (by omega), audited_is (by omega) (by omega)]
  simp only [Option.bind_some]
  have hcl := code_lenW (l := l) (f := f)
  generalize (if (goodE l && decide (l.length ≤ 100)) = true then (if goodF l.length f = true then (0 : Int) else 2) else 1) = q at hcl ⊢
  by_cases hq : q = 0
  · have hl100 := hcl hq
    subst hq
    obtain ⟨ns, e1, e2, hs, hn, hm⟩ := obs_names (l := l) (by omega)
    simp only [beq_self_eq_true, Bool.not_true, Bool.false_eq_true, if_false]
    rw [impl_shares (by omega) hf e2 (by omega) hm]
    unfold spec_l26Shares
    rw [e1]
    simp only [Option.bind_some, Int.toNat_natCast]
    rw [mkOk_of (by omega) (by omega) (by omega), ck_true, shares_spec (by omega) hf hs (by omega) hm]
    simp only [Option.bind_some]
    obtain ⟨best, worst, most, w1, w2, hr⟩ := worst_loop (f := f) hl100 (by omega) hm ns.length 0 (-1) [] ⟨0, 1⟩ (by omega) (.inl ⟨rfl, rfl, rfl⟩)
    rw [show ((0 : Nat) : Int) = 0 from rfl] at w1 w2
    rw [w1, w2]
    simp only [Option.bind_some]
    rcases hr with ⟨rfl, rfl, rfl⟩ | ⟨k, hk, rfl, rfl, rfl, hk1⟩
    · exact ⟨[], 3, rfl, rfl⟩
    · have a1 := all_pos ((hm _).1 (List.getElem_mem hk))
      have a2 := cntN_in (allP l ns[k]) l.length
      have b2 := cntN_in (badP l f ns[k]) l.length
      obtain ⟨g, g1, q1, _, n0, _⟩ := frac_mul (a := cntN (badP l f ns[k]) l.length) (b := cntN (allP l ns[k]) l.length) (by omega) (by omega) a1 (by omega)
      have hnz : ((shareN l f ns[k]).Num == 0) = false := by
        rw [beq_eq_false_iff_ne]
        intro e
        have e' : (fracN (cntN (badP l f ns[k]) l.length) (cntN (allP l ns[k]) l.length)).Num = 0 := e
        rw [e', Int.mul_zero] at q1
        omega
      have e3 : ¬ (k : Int) < 0 := by omega
      simp only [e3, decide_false, Bool.false_eq_true, if_false, hnz, Int.toNat_natCast, ixOk_nat, hk, decide_true, ck_true, getD_lt hk]
      exact ⟨ns[k], 0, rfl, rfl⟩
  · have h : (!(q == 0)) = true := by simpa using hq
    simp only [h, if_true]
    exact ⟨[], q, rfl, rfl⟩

theorem law_WorstObserver {l : List Estimate} {f : List Fault} (w : l.length ≤ maxLen ∧ ∀ s ∈ l, R64 s.Time ∧ s.Star.length ≤ maxLen ∧ s.Observer.length ≤ maxLen ∧ R64 s.Mag ∧ True) (u : f.length ≤ maxLen ∧ ∀ x ∈ f, R64 x.Index ∧ R64 x.Kind) : laws_FnExactWorstObserver l f = some true := by
  unfold laws_FnExactWorstObserver
  obtain ⟨z, hz, hz2⟩ := szEstimateS_is (a := l) (n := 1048576) (by decide) (by decide) w.1 (fun s hs => ⟨(w.2 s hs).2.1, (w.2 s hs).2.2.1⟩)
  simp only [hz, Option.bind_some]
  by_cases h : z < 0
  · simp [h]
  have hz2 := hz2 h
  obtain ⟨y, hy, hy2⟩ := szFaultS_is (a := f) (n := z) (by omega) (by omega) u.1
  simp only [h, decide_false, Bool.false_eq_true, if_false, hy, Option.bind_some]
  by_cases h' : y < 0
  · simp [h']
  have hy2 := hy2 h'
  obtain ⟨r, c, e1, e2⟩ := WorstObserver_same (l := l) (f := f) (by omega) (by omega)
  have b1 : l.length ≤ 1099511627776 := by omega
  have b2 : f.length ≤ 1099511627776 := by omega
  simp only [h', decide_false, Bool.false_eq_true, if_false, toEstimateS_is b1, toFaultS_is b2, Option.bind_some, e1, e2, eqEstimateS_is b1, eqFaultS_is b2, decide_true, Bool.not_true, beq_self_eq_true, Bool.or_self]

end Go.Proofs.Ytcfjogkgmkagiab
