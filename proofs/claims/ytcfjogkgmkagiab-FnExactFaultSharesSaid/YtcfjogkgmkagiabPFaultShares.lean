/- The plain law of FaultShares. No condition. -/
import Derived.Test.YtcfjogkgmkagiabHShares
namespace Go.Proofs.Ytcfjogkgmkagiab
open Go Go.RowKit
set_option linter.unusedSimpArgs false
set_option linter.unusedVariables false

theorem code_len {l : List Estimate} {f : List Fault} (h : (if (goodE l && decide (l.length ≤ 100)) = true then (if goodF l.length f = true then (0 : Int) else 2) else 1) = 0) : l.length ≤ 100 := by
  split at h
  · rename_i c
    simp only [Bool.and_eq_true, decide_eq_true_eq] at c
    exact c.2
  · omega

theorem FaultShares_same {l : List Estimate} {f : List Fault} (hl : l.length ≤ 1048576) (hf : f.length ≤ 1048576) : ∃ r c, r.length ≤ 1048576 ∧ spec_FaultShares l f = some (r, c) ∧ impl_FaultShares l f = some (r, c) := by
  unfold spec_FaultShares impl_FaultShares
  rw [code_is (by omega) (by omega), audited_is (by omega) (by omega)]
  simp only [Option.bind_some]
  have hcl := code_len (l := l) (f := f)
  generalize (if (goodE l && decide (l.length ≤ 100)) = true then (if goodF l.length f = true then (0 : Int) else 2) else 1) = q at hcl ⊢
  by_cases hq : q = 0
  · have hl100 := hcl hq
    subst hq
    obtain ⟨ns, e1, e2, hs, hn, hm⟩ := obs_names (l := l) (by omega)
    simp only [beq_self_eq_true, Bool.not_true, Bool.false_eq_true, if_false]
    rw [impl_shares (by omega) hf e2 (by omega) hm]
    unfold spec_l26Shares
    rw [e1]
    simp only [Option.bind_some, Int.toNat_natCast]
    rw [mkOk_of (by omega) (by omega) (by omega), ck_true, shares_spec (by omega) hf hs (by omega) hm]
    simp only [Option.bind_some]
    have := while_up (step := spec_FaultShares_l1 ns (ns.map (fun n => cntN (badP l f n) l.length)) (ns.map (fun n => cntN (allP l n) l.length))) (fun i => (ns.take i).map (shareN l f)) ns.length (r := ns.map (shareN l f)) (fun i hi => by
      have hmem : ns[i] ∈ obsL l := (hm _).1 (List.getElem_mem hi)
      have a1 := all_pos hmem
      have a2 := cntN_in (allP l ns[i]) l.length
      have b2 := cntN_in (badP l f ns[i]) l.length
      have k1 : ixOk (i : Int) (ns.map (fun n => cntN (badP l f n) l.length)).length = true := by rw [ixOk_nat]; simpa using hi
      have k2 : ixOk (i : Int) (ns.map (fun n => cntN (allP l n) l.length)).length = true := by rw [ixOk_nat]; simpa using hi
      have g1 : (ns.map (fun n => cntN (badP l f n) l.length)).getD i default = cntN (badP l f ns[i]) l.length := by rw [getD_lt (by simpa using hi)]; simp
      have g2 : (ns.map (fun n => cntN (allP l n) l.length)).getD i default = cntN (allP l ns[i]) l.length := by rw [getD_lt (by simpa using hi)]; simp
      simp only [spec_FaultShares_l1, hi, decide_true, k1, k2, ck_true, Int.ofNat_lt, if_true, Int.toNat_natCast, wrap_nat1 (show i < 9223372036854775807 by omega), Option.bind_some, g1, g2,
        make_is b2.1 (show cntN (badP l f ns[i]) l.length ≤ 1000000 by omega) a1 (show cntN (allP l ns[i]) l.length ≤ 1000000 by omega)]
      rw [appOk_of (by simp; omega), ck_true, List.take_add_one, List.getElem?_eq_getElem hi]
      simp only [List.map_append, Option.toList_some, List.map_cons, List.map_nil, shareN]) (by rw [List.take_length]; simp [spec_FaultShares_l1])
    simp only [List.take_zero, List.map_nil] at this
    rw [this]
    exact ⟨ns.map (shareN l f), 0, by simp; omega, rfl, rfl⟩
  · have h : (!(q == 0)) = true := by simpa using hq
    simp only [h, if_true]
    exact ⟨[], q, by simp, rfl, rfl⟩

theorem law_FaultShares {l : List Estimate} {f : List Fault} (w : l.length ≤ maxLen ∧ ∀ s ∈ l, R64 s.Time ∧ s.Star.length ≤ maxLen ∧ s.Observer.length ≤ maxLen ∧ R64 s.Mag ∧ True) (u : f.length ≤ maxLen ∧ ∀ x ∈ f, R64 x.Index ∧ R64 x.Kind) : laws_FnExactFaultShares l f = some true := by
  unfold laws_FnExactFaultShares
  obtain ⟨z, hz, hz2⟩ := szEstimateS_is (a := l) (n := 1048576) (by decide) (by decide) w.1 (fun s hs => ⟨(w.2 s hs).2.1, (w.2 s hs).2.2.1⟩)
  simp only [hz, Option.bind_some]
  by_cases h : z < 0
  · simp [h]
  have hz2 := hz2 h
  obtain ⟨y, hy, hy2⟩ := szFaultS_is (a := f) (n := z) (by omega) (by omega) u.1
  simp only [h, decide_false, Bool.false_eq_true, if_false, hy, Option.bind_some]
  by_cases h' : y < 0
  · simp [h']
  have hy2 := hy2 h'
  have hl : l.length ≤ 1048576 := by omega
  have hf : f.length ≤ 1048576 := by omega
  obtain ⟨r, c, hr, e1, e2⟩ := FaultShares_same hl hf
  have b1 : l.length ≤ 1099511627776 := by omega
  have b2 : f.length ≤ 1099511627776 := by omega
  have b3 : r.length ≤ 1099511627776 := by omega
  simp only [h', decide_false, Bool.false_eq_true, if_false, toEstimateS_is b1, toFaultS_is b2, Option.bind_some, e1, e2, eqFractionS_is b3, eqEstimateS_is b1, eqFaultS_is b2, decide_true, Bool.not_true, beq_self_eq_true, Bool.or_self,
    markEstimateS_is b1 (show (1 : Int) ≤ 1 by decide) (by decide), markFaultS_is b2 (show (1 : Int) ≤ 1 + ((5 : Nat) : Int) * (l.length : Int) by omega) (by omega),
    markFractionS_is b3 (show (1 : Int) ≤ 1 by decide) (by decide), heldFractionS_is b3 (show (1 : Int) ≤ 1 by decide) (by decide)]
  have h3 : ¬ (1 + ((5 : Nat) : Int) * (l.length : Int) + ((2 : Nat) : Int) * (f.length : Int) < 0) := by omega
  have h4 : ¬ (1 + ((2 : Nat) : Int) * (r.length : Int) < 0) := by omega
  simp only [h3, h4, decide_false, Bool.or_self, Bool.false_eq_true, if_false]

end Go.Proofs.Ytcfjogkgmkagiab
