/- The plain law of FnRecords. No condition. -/
import Derived.Test.YtpnomhinhcochaaGreatDoorHPB
import Derived.Test.YtpnomhinhcochaaGreatDoorHPC
namespace Go.Proofs.YtpnomhinhcochaaGreatDoor
open Go Go.RowKit
set_option linter.unusedSimpArgs false
set_option linter.unusedVariables false

theorem A2Estimates_is {c : List UInt8} (hc : c.length ≤ 1099511627776) : ∃ l, spec_A2Estimates c = some l ∧ goodE l = true ∧ l.length ≤ 12 := by
  obtain ⟨l, s', e, hg, hl, _⟩ := l06Draw_is (m := 1000) ((srcN_from hc).le (by omega)) (most := 12) (by omega)
  unfold spec_A2Estimates
  have e' : spec_l06Draw ⟨c, 0, 0⟩ 12 = some (l, s') := e
  exact ⟨l, by rw [From_is, Option.bind_some, e']; rfl, hg, hl⟩

theorem A2Estimate_is {c : List UInt8} (hc : c.length ≤ 1099511627776) : ∃ e, spec_A2Estimate c = some e ∧ oneE e = true := by
  obtain ⟨e, s', h1, h2, _⟩ := l06New_is (m := 1000) ((srcN_from hc).le (by omega))
  unfold spec_A2Estimate
  exact ⟨e, by rw [From_is, Option.bind_some, h1]; rfl, h2⟩

theorem fields_eq (a b : Estimate) (h : a = b) : ((a.Time == b.Time) && ((a.Star == b.Star) && ((a.Observer == b.Observer) && ((a.Mag == b.Mag) && (a.Fainter == b.Fainter))))) = true := by subst h; simp

theorem spec_Same_self {l : List Estimate} (hl : l.length ≤ 1000) : spec_SameEstimates l l = some true := by
  unfold spec_SameEstimates
  rw [while_all (step := spec_SameEstimates_l1 l l) (fun _ => true) l.length true (yes := .inl ()) (no := .inr false) (by simp) (fun i hi => by
    simp only [spec_SameEstimates_l1, Int.ofNat_lt, hi, decide_true, if_true, ixOk_nat, ck_true, Int.toNat_natCast, fields_eq _ _ rfl, Bool.not_true, Bool.false_eq_true, if_false, wrap_nat1 (show i < 9223372036854775807 by omega)]) (by simp [spec_SameEstimates_l1])]
  simp

theorem impl_Same_self {l : List Estimate} (hl : l.length ≤ 1000) : impl_SameEstimates l l = some true := by
  unfold impl_SameEstimates slices_Equal_impl_Estimate_impl_Estimate
  rw [while_all (step := slices_Equal_impl_Estimate_impl_Estimate_l1 l l (l.length : Int)) (fun _ => true) l.length true (yes := .inl ()) (no := .inr false) (by simp) (fun i hi => by
    simp only [slices_Equal_impl_Estimate_impl_Estimate_l1, Int.ofNat_lt, hi, decide_true, if_true, ixOk_nat, ck_true, Int.toNat_natCast, fields_eq _ _ rfl, Bool.not_true, Bool.false_eq_true, if_false, wrap_nat1 (show i < 9223372036854775807 by omega)]) (by simp [slices_Equal_impl_Estimate_impl_Estimate_l1])]
  simp

theorem copyE_is {l : List Estimate} (hl : l.length ≤ 1000) : impl_copyOf_impl_Estimate l = some l := by
  unfold impl_copyOf_impl_Estimate
  rw [appOk_of (by simp; omega), ck_true]; rfl

theorem validE_is {l : List Estimate} (hg : goodE l = true) (hl : l.length ≤ 100) : impl_ValidEstimates l = some true := by
  rw [ValidEstimates_is (by omega), hg, decide_eq_true hl]; rfl

theorem place_own {l : List Estimate} (hg : goodE l = true) {i k : Nat} (hi : i < l.length) (hp : placedE l (l.getD i default) k) : k = i := by
  obtain ⟨h0, h1, h2⟩ := hp
  rcases Nat.lt_trichotomy k i with h | h | h
  · exact absurd (goodE_up' hg h hi) (h2 k (Nat.le_refl _) (by omega))
  · exact h
  · exact absurd (h1 i h) (ltK_irr _)

theorem merge_self {l : List Estimate} (hg : goodE l = true) (hl : l.length ≤ 100) : impl_MergeEstimates l l = some (l, 0) := by
  unfold impl_MergeEstimates
  have hw := while_up (step := impl_MergeEstimates_l1 l (l.length : Int)) (fun _ => l) l.length (r := .inl l) (fun i hi => by
    obtain ⟨k, f, e1, hp, hf⟩ := bs_is (l := l) (l.getD i default) hg (by omega)
    obtain rfl := place_own hg hi hp
    have hft : f = true := hf.2 ⟨hi, rfl, rfl, rfl⟩
    subst hft
    simp only [impl_MergeEstimates_l1, Int.ofNat_lt, hi, decide_true, if_true, ixOk_nat, ck_true, Int.toNat_natCast, e1, Option.bind_some, Bool.not_true, Bool.false_eq_true, if_false, fields_eq _ _ rfl, wrap_nat1 (show k < 9223372036854775807 by omega)]) (by simp [impl_MergeEstimates_l1])
  have c : decide ((100 : Int) < (l.length : Int)) = false := decide_eq_false (by omega)
  rw [validE_is hg hl, copyE_is (by omega)]
  simp only [Option.bind_some, Option.isSome_some, Option.getD_some, Bool.or_true, ck_true, Bool.not_true, Bool.or_self, Bool.false_eq_true, if_false]
  rw [hw]
  simp only [Option.bind_some, c, Bool.false_eq_true, if_false]

def putE (l : List Estimate) (k : Nat) (e : Estimate) : List Estimate := ((l.take k) ++ [e]) ++ l.drop k

theorem ins_is {l : List Estimate} {k : Nat} (e : Estimate) (hk : k ≤ l.length) (hl : l.length ≤ 1000) : hIns 56 l (k : Int) ([e] : List Estimate) = some (putE l k e) := by
  unfold hIns insOk
  rw [if_pos (by simp; omega)]
  simp [putE]

theorem put_good {l : List Estimate} {e : Estimate} {k : Nat} (hg : goodE l = true) (he : oneE e = true) (hp : placedE l e k) (hne : ¬ (k < l.length ∧ eqK (l.getD k default) e)) : goodE (putE l k e) = true := by
  obtain ⟨h0, h1, h2⟩ := hp
  refine goodE_put hg he h0 (fun hk => ?_) (fun hk => (before_iff _ _).2 (h1 (k - 1) (by omega)))
  rw [before_iff]
  rcases ltK_tri (l.getD k default) e with h | h | h
  · exact absurd h (h2 k (Nat.le_refl _) hk)
  · exact absurd ⟨hk, h⟩ hne
  · exact h

theorem bs_add {l : List Estimate} {e : Estimate} (hg : goodE l = true) (hl : l.length ≤ 99) (he : oneE e = true) :
    (impl_AddEstimate l e = some ([], 4)) ∨ ∃ k, k ≤ l.length ∧ impl_AddEstimate l e = some (putE l k e, 0) ∧ goodE (putE l k e) = true ∧ impl_MergeEstimates l [e] = some (putE l k e, 0) := by
  obtain ⟨k, f, e1, hp, hf⟩ := bs_is (l := l) e hg (by omega)
  have c100 : ((l.length : Int) == 100) = false := by rw [beq_eq_false_iff_ne]; omega
  have hk := hp.1
  unfold impl_AddEstimate
  rw [validE_is hg (by omega), isEstimate_is, he, e1, copyE_is (by omega)]
  cases f with
  | true => left; simp
  | false =>
    right
    have hne : ¬ (k < l.length ∧ eqK (l.getD k default) e) := fun h => Bool.noConfusion (hf.2 h)
    have hge := put_good hg he hp hne
    refine ⟨k, hk, ?_, hge, ?_⟩
    · simp only [Option.bind_some, Bool.not_true, Bool.false_eq_true, if_false, c100, ins_is e hk (by omega)]
    · have hg1 : goodE [e] = true := by
        have hd : okE [e] 0 = true := by unfold okE; simp [he]
        unfold goodE; simp [hd]
      have hlen : (putE l k e).length = l.length + 1 := by unfold putE; simp; omega
      have hw : whileE (impl_MergeEstimates_l1 [e] (([e] : List Estimate).length : Int)) (l, 0) = some (.inl (putE l k e)) := by
        have := while_up (step := impl_MergeEstimates_l1 [e] (([e] : List Estimate).length : Int)) (fun i => if i = 0 then l else putE l k e) 1 (r := .inl (putE l k e)) (fun i hi => by
          obtain rfl : i = 0 := by omega
          have g : ([e] : List Estimate).getD ((0 : Nat) : Int).toNat default = e := rfl
          simp only [impl_MergeEstimates_l1, if_true, g]
          rw [if_pos (by simp), show ixOk ((0 : Nat) : Int) ([e] : List Estimate).length = true from rfl, ck_true, e1]
          simp only [Option.bind_some, Bool.not_false, if_true, ins_is e hk (show l.length ≤ 1000 by omega)]
          rfl) (by simp [impl_MergeEstimates_l1])
        exact this
      have c : decide ((100 : Int) < ((putE l k e).length : Int)) = false := decide_eq_false (by omega)
      unfold impl_MergeEstimates
      rw [validE_is hg (by omega), validE_is hg1 (by simp), copyE_is (by omega)]
      simp only [Option.bind_some, Option.isSome_some, Option.getD_some, Bool.or_true, ck_true, Bool.not_true, Bool.or_self, Bool.false_eq_true, if_false]
      rw [hw]
      simp only [Option.bind_some, c, Bool.false_eq_true, if_false]

theorem law_Records {code more : List UInt8} (w : code.length ≤ maxLen) (w2 : more.length ≤ maxLen) : laws_FnRecords code more = some true := by
  unfold laws_FnRecords laws_a2Long
  simp only [Option.bind_some]
  by_cases h : 3000 < code.length
  · have e : decide ((3000 : Int) < (code.length : Int)) = true := decide_eq_true (by omega)
    simp only [e, Bool.true_or, if_true]
  by_cases h' : 3000 < more.length
  · have e : decide ((3000 : Int) < (more.length : Int)) = true := decide_eq_true (by omega)
    simp only [e, Bool.or_true, if_true]
  have e1 : decide ((3000 : Int) < (code.length : Int)) = false := decide_eq_false (by omega)
  have e2 : decide ((3000 : Int) < (more.length : Int)) = false := decide_eq_false (by omega)
  simp only [e1, e2, Bool.or_self, Bool.false_eq_true, if_false]
  obtain ⟨l, a1, hg, hl⟩ := A2Estimates_is (c := code) (by omega)
  obtain ⟨e, a2, he⟩ := A2Estimate_is (c := more) (by omega)
  rw [a1, a2]
  simp only [Option.bind_some, merge_self hg (show l.length ≤ 100 by omega), spec_Same_self (show l.length ≤ 1000 by omega), impl_Same_self (show l.length ≤ 1000 by omega), Option.isSome_some, Option.getD_some, Bool.or_true, ck_true, beq_self_eq_true, Bool.not_true, Bool.or_self, Bool.false_eq_true, if_false,
    EstText_is hg (show l.length ≤ 100 by omega), ReadEst_is hg (show l.length ≤ 100 by omega)]
  rcases bs_add hg (show l.length ≤ 99 by omega) he with b | ⟨k, hk, b1, b2, b3⟩
  · rw [b]; simp
  · have hlen : (putE l k e).length = l.length + 1 := by unfold putE; simp; omega
    have hv : spec_ValidEstimates (putE l k e) = some true := by
      unfold spec_ValidEstimates
      rw [l06Ok_is (by omega), b2, decide_eq_true (by omega)]; rfl
    have hw : ((((putE l k e).length : Nat) : Int) == IntKind.i64.wrap ((l.length : Int) + 1)) = true := by
      rw [wrap_i64 (by omega) (by omega), beq_iff_eq]; omega
    rw [b1]
    simp only [Option.bind_some, beq_self_eq_true, Bool.not_true, Bool.false_eq_true, if_false, b3, hv, validE_is b2 (by omega), Option.isSome_some, Option.getD_some, Bool.or_true, ck_true, hw, Bool.and_self, spec_Same_self (show (putE l k e).length ≤ 1000 by omega)]

end Go.Proofs.YtpnomhinhcochaaGreatDoor
