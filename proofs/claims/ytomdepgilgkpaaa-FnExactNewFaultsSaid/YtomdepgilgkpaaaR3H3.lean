/- What typed forms say: faults. No condition. -/
import Derived.Test.YtomdepgilgkpaaaR3H1
namespace Go.Proofs.Ytomdepgilgkpaaa
open Go Go.RowKit
set_option linter.unusedSimpArgs false
set_option linter.unusedVariables false

theorem eqFault_is (a b : Fault) : laws_eqFault a b = some (a == b) := by
  obtain ⟨a1, a2⟩ := a
  obtain ⟨b1, b2⟩ := b
  unfold laws_eqFault
  by_cases h1 : a1 = b1 <;> by_cases h2 : a2 = b2 <;> simp [h1, h2, Fault.mk.injEq]

theorem eqFaultS_is {a b : List Fault} (h : a.length ≤ 1099511627776) : laws_eqFaultS a b = some (decide (a = b)) := by
  unfold laws_eqFaultS
  by_cases hl : a.length = b.length
  · have h1 : ((a.length : Int) == (b.length : Int)) = true := by simp [hl]
    rw [h1]
    have := while_all (step := laws_eqFaultS_l1 a b) (fun i => a.getD i default == b.getD i default) a.length (decide (a = b)) (yes := .inl ()) (no := .inr false)
      (by rw [decide_eq_true_eq]; exact (getD_eq_iff hl).symm)
      (fun i hi => by
        have hi2 : i < b.length := by omega
        simp only [laws_eqFaultS_l1, ixOk_nat, hi, hi2, decide_true, ck_true, Int.ofNat_lt, if_true, Int.toNat_natCast, wrap_nat1 (show i < 9223372036854775807 by omega), eqFault_is, Option.bind_some]
        cases (a.getD i default == b.getD i default) <;> rfl)
      (by simp [laws_eqFaultS_l1])
    simp only [Bool.not_true, Bool.false_eq_true, if_false, this, Option.bind_some]
    by_cases hab : a = b <;> simp [hab]
  · have h1 : ((a.length : Int) == (b.length : Int)) = false := by simp; omega
    rw [h1]
    have : a ≠ b := fun c => hl (by rw [c])
    simp [this]

theorem toFaultS_is {a : List Fault} (h : a.length ≤ 1099511627776) : laws_toFaultS a = some a := by
  unfold laws_toFaultS
  rw [mkOk_of (by omega) (by omega) (by omega), ck_true, Int.toNat_natCast, copy_loop _ h]
  · rfl
  · intro out i ho hi
    simp only [laws_toFaultS_l1, laws_toFault, Option.bind_some, ixOk_nat, ho, hi, decide_true, ck_true, Int.ofNat_lt, if_true, Int.toNat_natCast, wrap_nat1 (show i < 9223372036854775807 by omega)]
  · intro out; simp [laws_toFaultS_l1]

def mkF2 (x : Fault) (k : Int) : Fault := ⟨k, k + 1⟩
theorem markFault_step (l : List Fault) (k : Int) (i : Nat) (hi : i < l.length) (hl2 : l.length ≤ 1099511627776) (h1 : 1 ≤ k) (h2 : k ≤ 2251799813685248) :
    laws_markFaultS_l1 (l, k, (i : Int)) = some (.inl (l.set i (mkF2 (l.getD i default) k), k + ((2 : Nat) : Int), ((i + 1 : Nat) : Int))) := by
  have hk : IntKind.i64.wrap (k + 1) = k + 1 := wrap_i64 (by omega) (by omega)
  have hk2 : IntKind.i64.wrap (k + 1 + 1) = k + ((2 : Nat) : Int) := by rw [wrap_i64 (by omega) (by omega)]; omega
  have hg : ∀ x : Fault, (l.set i x).getD i default = x := fun x => by
    rw [getD_lt (by simpa using hi)]; simp
  simp only [laws_markFaultS_l1, List.length_set, ixOk_nat, hi, decide_true, ck_true, Int.ofNat_lt, if_true, Int.toNat_natCast, wrap_nat1 (show i < 9223372036854775807 by omega), hk, hk2, hg, List.set_set, mkF2]
theorem markFaultS_is {a : List Fault} (hl : a.length ≤ 1099511627776) {k : Int} (h0 : 1 ≤ k) (h1 : k ≤ 1125899906842624) : laws_markFaultS a k = some (k + ((2 : Nat) : Int) * a.length, markL mkF2 2 a k) := by
  unfold laws_markFaultS
  rw [mark_loopK mkF2 2 (step := laws_markFaultS_l1) (by omega) markFault_step ?_ hl h0 h1]
  · simp [markL_len, ck_true]
  · intro l k; simp [laws_markFaultS_l1]
theorem heldFaultS_is {a : List Fault} (hl : a.length ≤ 1099511627776) : laws_heldFaultS (markL mkF2 2 a 1) 1 = some (1 + ((2 : Nat) : Int) * a.length) := by
  unfold laws_heldFaultS
  rw [held_loop (f := mkF2) (c := 2) (a := a) (by omega) ?_ ?_ hl]
  · rfl
  · intro x k i hi hg h1 h2
    have hk : IntKind.i64.wrap (k + 1) = k + 1 := wrap_i64 (by omega) (by omega)
    have hk2 : IntKind.i64.wrap (k + 1 + 1) = k + ((2 : Nat) : Int) := by rw [wrap_i64 (by omega) (by omega)]; omega
    simp only [laws_heldFaultS_l1, ixOk_nat, markL_len, hi, decide_true, ck_true, Int.ofNat_lt, if_true, Int.toNat_natCast, wrap_nat1 (show i < 9223372036854775807 by omega), hk, hk2, hg, mkF2, beq_self_eq_true, Bool.not_true, Bool.false_eq_true, if_false]
  · intro k; simp [laws_heldFaultS_l1, markL_len]

theorem szFaultS_is {a : List Fault} {n : Int} (h0 : 0 ≤ n) (h1 : n ≤ 1048576) (hl : a.length ≤ maxLen) : ∃ z, laws_szFaultS a n = some z ∧ (¬ z < 0 → a.length ≤ n ∧ z = n - a.length) := by
  unfold laws_szFaultS
  have hm : maxLen = 9223372036854775807 := by decide
  rw [wrap_i64 (by omega) (by omega)]
  by_cases h : n - (a.length : Int) < 0
  · exact ⟨-1, by simp [h], fun c => absurd (by decide) c⟩
  · exact ⟨n - a.length, by simp [h], fun _ => by omega⟩

/-! ### Which lists of faults are good -/

def okF (f : List Fault) (i : Nat) : Bool :=
  ((decide (0 ≤ (f.getD i default).Index) && decide ((f.getD i default).Index ≤ 99)) && (decide (1 ≤ (f.getD i default).Kind) && decide ((f.getD i default).Kind ≤ 5))) &&
  !(decide (0 < i) && (decide ((f.getD i default).Index < (f.getD (i - 1) default).Index) || ((f.getD (i - 1) default).Index == (f.getD i default).Index && decide ((f.getD i default).Kind ≤ (f.getD (i - 1) default).Kind))))
def goodF (f : List Fault) : Bool := (List.range f.length).all (okF f)

theorem l26Kind_is (n : Int) : spec_l26Kind n = some (decide (1 ≤ n) && decide (n ≤ 5)) := by simp [spec_l26Kind, spec_l00In_is]

theorem l26Faults_is {f : List Fault} (hl : f.length ≤ 1099511627776) : spec_l26Faults f 100 = some (goodF f) := by
  unfold spec_l26Faults
  rw [while_all (step := spec_l26Faults_l1 f 100) (okF f) f.length (goodF f) (yes := .inl ()) (no := .inr false)]
  · simp only [Option.bind_some]
    cases goodF f <;> rfl
  · unfold goodF; simp
  · intro i hi
    have w99 : IntKind.i64.wrap (100 - 1) = 99 := by decide
    simp only [spec_l26Faults_l1, ixOk_nat, hi, decide_true, ck_true, Int.ofNat_lt, if_true, Int.toNat_natCast, wrap_nat1 (show i < 9223372036854775807 by omega), spec_l00In_is, l26Kind_is, Option.bind_some, Option.isSome_some, Option.getD_some, Bool.or_true, w99]
    unfold okF
    generalize hA : (decide (0 ≤ (f.getD i default).Index) && decide ((f.getD i default).Index ≤ 99)) = A
    generalize hB : (decide (1 ≤ (f.getD i default).Kind) && decide ((f.getD i default).Kind ≤ 5)) = B
    by_cases hAB : (A && B) = true
    · have hAB2 : (!A || !B) = false := by cases A <;> cases B <;> simp_all
      rw [hAB2, hAB]
      simp only [Bool.false_eq_true, if_false, Bool.true_and]
      by_cases h0 : 0 < i
      · have e0 : decide ((0 : Int) < (i : Int)) = true := by simpa using h0
        have e1 : decide (0 < i) = true := by simpa using h0
        have w1 : IntKind.i64.wrap ((i : Int) - 1) = ((i - 1 : Nat) : Int) := by rw [wrap_i64 (by omega) (by omega)]; omega
        have ok1 : ixOk ((i - 1 : Nat) : Int) f.length = true := by rw [ixOk_nat]; simp; omega
        simp only [e0, e1, w1, ok1, Bool.or_true, ck_true, Bool.true_and, Int.toNat_natCast]
        generalize (decide ((f.getD i default).Index < (f.getD (i - 1) default).Index) || ((f.getD (i - 1) default).Index == (f.getD i default).Index && decide ((f.getD i default).Kind ≤ (f.getD (i - 1) default).Kind))) = C
        cases C <;> rfl
      · have e0 : decide ((0 : Int) < (i : Int)) = false := by simpa using h0
        have e1 : decide (0 < i) = false := by simpa using h0
        simp only [e0, e1, Bool.false_and, Bool.not_false, Bool.true_or, ck_true, Bool.false_eq_true, if_false, if_true]
    · have hAB1 : (A && B) = false := by simpa using hAB
      have hAB2 : (!A || !B) = true := by cases A <;> cases B <;> simp_all
      rw [hAB2, hAB1]
      simp
  · simp [spec_l26Faults_l1]

theorem ordered_step (f : List Fault) (c : Int) : impl_ordered_l1 f c f (f.length : Int) = spec_l26Faults_l1 f c := by
  funext i
  simp only [impl_ordered_l1, spec_l26Faults_l1, impl_in_is, spec_l00In_is, l26Kind_is]

theorem ordered_is {f : List Fault} (hl : f.length ≤ 1099511627776) : impl_ordered f 100 = some (goodF f) := by
  rw [← l26Faults_is hl]
  unfold impl_ordered spec_l26Faults
  rw [ordered_step]

theorem goodF_kind {f : List Fault} (h : goodF f = true) {i : Nat} (hi : i < f.length) : 1 ≤ (f.getD i default).Kind ∧ (f.getD i default).Kind ≤ 5 := by
  unfold goodF at h
  have := all_range' h hi
  simp only [okF, Bool.and_eq_true, decide_eq_true_eq] at this
  exact this.1.2

/-! ### CountFaults -/

theorem count_step (f : List Fault) : impl_CountFaults_l1 f (f.length : Int) = spec_CountFaults_l1 f := id rfl

theorem CountFaults_same {f : List Fault} (hl : f.length ≤ 1048576) : ∃ l c, l.length ≤ 5 ∧ spec_CountFaults f = some (l, c) ∧ impl_CountFaults f = some (l, c) := by
  unfold spec_CountFaults impl_CountFaults
  rw [l26Faults_is (by omega), ordered_is (by omega)]
  simp only [Option.bind_some]
  cases hg : goodF f with
  | false => exact ⟨[], 2, by simp, rfl, rfl⟩
  | true =>
    simp only [Bool.not_true, Bool.false_eq_true, if_false, count_step, mkOk_of (show (0 : Int) ≤ 5 by decide) (show 1 ≤ 8 by decide) (by decide), ck_true]
    obtain ⟨y, hy, hq⟩ := while_post (step := spec_CountFaults_l1 f) (fun s => s.1.length = 5 ∧ ∃ i : Nat, s.2 = (i : Int) ∧ i ≤ f.length) (fun y => y.length = 5) (fun s => f.length - s.2.toNat) (by
      rintro ⟨out, i⟩ ⟨ho, i, rfl, hi⟩
      simp only at ho
      by_cases h : i < f.length
      · obtain ⟨k1, k2⟩ := goodF_kind hg h
        left
        simp only [spec_CountFaults_l1, Int.ofNat_lt, h, decide_true, if_true, ixOk_nat, ck_true, Int.toNat_natCast, wrap_nat1 (show i < 9223372036854775807 by omega)]
        rw [wrap_i64 (n := (f.getD i default).Kind - 1) (by omega) (by omega), ixOk_of (by omega) (by omega), ck_true]
        exact ⟨_, rfl, ⟨by simpa using ho, i + 1, rfl, by omega⟩, by simp only [Int.toNat_natCast]; omega⟩
      · right
        exact ⟨out, by simp [spec_CountFaults_l1, h], ho⟩) (s := (List.replicate 5 0, 0)) ⟨by simp, 0, rfl, by omega⟩
    refine ⟨y, 0, by omega, ?_, ?_⟩ <;> · rw [hy]; rfl

theorem law_CountFaults {f : List Fault} (w : f.length ≤ maxLen ∧ ∀ x ∈ f, R64 x.Index ∧ R64 x.Kind) : laws_FnExactCountFaults f = some true := by
  unfold laws_FnExactCountFaults
  obtain ⟨z, hz, hz2⟩ := szFaultS_is (a := f) (n := 1048576) (by decide) (by decide) w.1
  rw [hz]
  simp only [Option.bind_some]
  by_cases h : z < 0
  · simp [h]
  · obtain ⟨h1, h2⟩ := hz2 h
    have hl : f.length ≤ 1048576 := by omega
    obtain ⟨l, c, hl5, e1, e2⟩ := CountFaults_same hl
    simp only [h, decide_false, Bool.false_eq_true, if_false, toFaultS_is (show f.length ≤ 1099511627776 by omega), Option.bind_some, e1, e2, eqInt64S_is (show l.length ≤ 1099511627776 by omega), decide_true, Bool.not_true, beq_self_eq_true, Bool.or_self,
      eqFaultS_is (show f.length ≤ 1099511627776 by omega), markFaultS_is (show f.length ≤ 1099511627776 by omega) (show (1 : Int) ≤ 1 by decide) (by decide), markInt64S_is (show l.length ≤ 1099511627776 by omega), heldInt64S_is (show l.length ≤ 1099511627776 by omega)]
    have h3 : ¬ (1 + ((2 : Nat) : Int) * (f.length : Int) < 0) := by omega
    have h4 : ¬ (1 + ((1 : Nat) : Int) * (l.length : Int) < 0) := by omega
    simp only [h3, h4, decide_false, Bool.or_self, Bool.false_eq_true, if_false]

/-! ### NewFaults -/

theorem index_step {f : List Fault} {v : Fault} {i : Nat} (hi : i < f.length) (hl : f.length ≤ 1099511627776) :
    slices_Index_impl_Fault_impl_Fault_l1 f v (f.length : Int) (i : Int) = some (if (v == f.getD i default) = true then .inr (.inr (i : Int)) else .inl ((i + 1 : Nat) : Int)) := by
  have e : ((v.Index == ((f.getD i default).Index)) && (v.Kind == ((f.getD i default).Kind))) = (v == f.getD i default) := by
    rw [Bool.eq_iff_iff]
    obtain ⟨a, b⟩ := v
    generalize f.getD i default = x
    obtain ⟨c, d⟩ := x
    simp [Fault.mk.injEq]
  simp only [slices_Index_impl_Fault_impl_Fault_l1, ixOk_nat, hi, decide_true, ck_true, Int.ofNat_lt, if_true, Int.toNat_natCast, wrap_nat1 (show i < 9223372036854775807 by omega), e]
  cases (v == f.getD i default) <;> rfl

theorem contains_is {f : List Fault} {v : Fault} (hl : f.length ≤ 1099511627776) : slices_Contains_impl_Fault_impl_Fault f v = some (f.any (v == ·)) := by
  unfold slices_Contains_impl_Fault_impl_Fault slices_Index_impl_Fault_impl_Fault
  have key : ∀ m i : Nat, i + m = f.length → (∃ j : Nat, whileE (slices_Index_impl_Fault_impl_Fault_l1 f v (f.length : Int)) (i : Int) = some (.inr (j : Int)) ∧ (f.drop i).any (v == ·) = true) ∨ (whileE (slices_Index_impl_Fault_impl_Fault_l1 f v (f.length : Int)) (i : Int) = some (.inl ()) ∧ (f.drop i).any (v == ·) = false) := by
    intro m
    induction m with
    | zero =>
      intro i hi
      obtain rfl : i = f.length := by omega
      right
      exact ⟨whileE_done (by simp [slices_Index_impl_Fault_impl_Fault_l1]), by simp⟩
    | succ m ih =>
      intro i hi
      have hlt : i < f.length := by omega
      have hs := index_step (v := v) hlt hl
      rw [List.drop_eq_getElem_cons hlt, List.any_cons, ← getD_lt hlt default]
      by_cases hv : (v == f.getD i default) = true
      · rw [if_pos hv] at hs
        exact .inl ⟨i, whileE_done hs, by rw [hv]; rfl⟩
      · rw [if_neg hv] at hs
        have hv2 : (v == f.getD i default) = false := by simpa using hv
        rw [whileE_next hs, hv2, Bool.false_or]
        exact ih (i + 1) (by omega)
  rcases key f.length 0 (by omega) with ⟨j, h1, h2⟩ | ⟨h1, h2⟩
  · rw [show ((0 : Nat) : Int) = 0 from rfl] at h1
    rw [List.drop_zero] at h2
    simp [h1, h2]
  · rw [show ((0 : Nat) : Int) = 0 from rfl] at h1
    rw [List.drop_zero] at h2
    simp [h1, h2]

theorem known_is {b n : List Fault} {out : List Fault} {i : Nat} (hb : b.length ≤ 1099511627776) (hi : i < n.length) : whileE (spec_NewFaults_l2 b n out (i : Int)) (false, 0) = some (b.any (n.getD i default == ·)) := by
  have := while_up (step := spec_NewFaults_l2 b n out (i : Int)) (fun k => (b.take k).any (n.getD i default == ·)) b.length (r := b.any (n.getD i default == ·)) (fun k hk => by
    have e : ((((b.getD k default).Index) == ((n.getD i default).Index)) && (((b.getD k default).Kind) == ((n.getD i default).Kind))) = (n.getD i default == b.getD k default) := by
      rw [Bool.eq_iff_iff]
      generalize n.getD i default = y
      obtain ⟨a, c⟩ := y
      generalize b.getD k default = x
      obtain ⟨d, g⟩ := x
      simp [Fault.mk.injEq]
      omega
    simp only [spec_NewFaults_l2, ixOk_nat, hk, hi, decide_true, ck_true, Int.ofNat_lt, if_true, Int.toNat_natCast, wrap_nat1 (show k < 9223372036854775807 by omega), Bool.or_true, e]
    rw [List.take_succ_eq_append_getElem hk, List.any_append, List.any_cons, List.any_nil, Bool.or_false, ← getD_lt hk default]) (by simp [spec_NewFaults_l2])
  simpa using this

theorem new_loop {b n : List Fault} (hb : b.length ≤ 1048576) (hn : n.length ≤ 1048576) :
    whileE (spec_NewFaults_l1 b n) (([] : List Fault), 0) = some (n.filter fun x => !b.any (x == ·)) ∧ impl_chosen_impl_Fault__impl_NewFaults_c1 n b = some (n.filter fun x => !b.any (x == ·)) := by
  have hlen : ∀ i, ((n.take i).filter fun x => !b.any (x == ·)).length ≤ 1048576 := fun i => by
    have := List.length_filter_le (fun x => !b.any (x == ·)) (n.take i)
    simp only [List.length_take] at this
    omega
  have hsucc : ∀ i, i < n.length → (n.take (i + 1)).filter (fun x => !b.any (x == ·)) = (n.take i).filter (fun x => !b.any (x == ·)) ++ if (b.any (n.getD i default == ·)) = true then [] else [n.getD i default] := by
    intro i hi
    rw [List.take_succ_eq_append_getElem hi, List.filter_append, ← getD_lt hi default, List.filter_cons, List.filter_nil]
    cases b.any (n.getD i default == ·) <;> rfl
  constructor
  · have := while_up (step := spec_NewFaults_l1 b n) (fun i => (n.take i).filter fun x => !b.any (x == ·)) n.length (r := n.filter fun x => !b.any (x == ·)) (fun i hi => by
      have := hlen i
      simp only [spec_NewFaults_l1, Int.ofNat_lt, hi, decide_true, if_true, known_is (show b.length ≤ 1099511627776 by omega) hi, Option.bind_some, ixOk_nat, ck_true, Int.toNat_natCast, wrap_nat1 (show i < 9223372036854775807 by omega)]
      rw [appOk_of (by simp only [List.length_cons, List.length_nil]; omega), ck_true, hsucc i hi]
      cases b.any (n.getD i default == ·) <;> simp) (by simp [spec_NewFaults_l1])
    simpa using this
  · have := while_up (step := impl_chosen_impl_Fault__impl_NewFaults_c1_l1 b n (n.length : Int)) (fun i => (n.take i).filter fun x => !b.any (x == ·)) n.length (r := n.filter fun x => !b.any (x == ·)) (fun i hi => by
      have := hlen i
      simp only [impl_chosen_impl_Fault__impl_NewFaults_c1_l1, impl_NewFaults_c1, contains_is (show b.length ≤ 1099511627776 by omega), Int.ofNat_lt, hi, decide_true, if_true, Option.bind_some, ixOk_nat, ck_true, Int.toNat_natCast, wrap_nat1 (show i < 9223372036854775807 by omega)]
      rw [appOk_of (by simp only [List.length_cons, List.length_nil]; omega), ck_true, hsucc i hi]
      cases b.any (n.getD i default == ·) <;> simp) (by simp [impl_chosen_impl_Fault__impl_NewFaults_c1_l1])
    unfold impl_chosen_impl_Fault__impl_NewFaults_c1
    simp only [List.take_zero, List.filter_nil] at this
    rw [this]; rfl

theorem NewFaults_same {b n : List Fault} (hb : b.length ≤ 1048576) (hn : n.length ≤ 1048576) : ∃ l c, l.length ≤ 1048576 ∧ spec_NewFaults b n = some (l, c) ∧ impl_NewFaults b n = some (l, c) := by
  unfold spec_NewFaults impl_NewFaults
  obtain ⟨e1, e2⟩ := new_loop hb hn
  simp only [l26Faults_is (show b.length ≤ 1099511627776 by omega), l26Faults_is (show n.length ≤ 1099511627776 by omega), ordered_is (show b.length ≤ 1099511627776 by omega), ordered_is (show n.length ≤ 1099511627776 by omega), Option.bind_some, Option.isSome_some, Option.getD_some, Bool.or_true, ck_true, e1, e2]
  by_cases h : (!goodF b || !goodF n) = true
  · rw [h]; exact ⟨[], 2, by simp, rfl, rfl⟩
  · have h2 : (!goodF b || !goodF n) = false := by simpa using h
    rw [h2]
    exact ⟨_, 0, Nat.le_trans (List.length_filter_le _ _) hn, rfl, rfl⟩

theorem law_NewFaults {b n : List Fault} (wb : b.length ≤ maxLen ∧ ∀ x ∈ b, R64 x.Index ∧ R64 x.Kind) (wn : n.length ≤ maxLen ∧ ∀ x ∈ n, R64 x.Index ∧ R64 x.Kind) : laws_FnExactNewFaults b n = some true := by
  unfold laws_FnExactNewFaults
  obtain ⟨z, hz, hz2⟩ := szFaultS_is (a := b) (n := 1048576) (by decide) (by decide) wb.1
  rw [hz]
  simp only [Option.bind_some]
  by_cases h : z < 0
  · simp [h]
  · obtain ⟨h1, h2⟩ := hz2 h
    obtain ⟨y, hy, hy2⟩ := szFaultS_is (a := n) (n := z) (by omega) (by omega) wn.1
    simp only [h, decide_false, Bool.false_eq_true, if_false, hy, Option.bind_some]
    by_cases h' : y < 0
    · simp [h']
    · obtain ⟨h3, h4⟩ := hy2 h'
      have hb : b.length ≤ 1048576 := by omega
      have hn : n.length ≤ 1048576 := by omega
      obtain ⟨l, c, hl5, e1, e2⟩ := NewFaults_same hb hn
      simp only [h', decide_false, Bool.false_eq_true, if_false, toFaultS_is (show b.length ≤ 1099511627776 by omega), toFaultS_is (show n.length ≤ 1099511627776 by omega), Option.bind_some, e1, e2, decide_true, Bool.not_true, beq_self_eq_true, Bool.or_self,
        eqFaultS_is (show b.length ≤ 1099511627776 by omega), eqFaultS_is (show n.length ≤ 1099511627776 by omega), eqFaultS_is (show l.length ≤ 1099511627776 by omega), markFaultS_is (show b.length ≤ 1099511627776 by omega) (show (1 : Int) ≤ 1 by decide) (by decide),
        markFaultS_is (show n.length ≤ 1099511627776 by omega) (show (1 : Int) ≤ 1 + ((2 : Nat) : Int) * (b.length : Int) by omega) (by omega), markFaultS_is (show l.length ≤ 1099511627776 by omega) (show (1 : Int) ≤ 1 by decide) (by decide), heldFaultS_is (show l.length ≤ 1099511627776 by omega)]
      have h5 : ¬ (1 + ((2 : Nat) : Int) * (b.length : Int) + ((2 : Nat) : Int) * (n.length : Int) < 0) := by omega
      have h6 : ¬ (1 + ((2 : Nat) : Int) * (l.length : Int) < 0) := by omega
      simp only [h5, h6, decide_false, Bool.or_self, Bool.false_eq_true, if_false]

end Go.Proofs.Ytomdepgilgkpaaa
