/- What typed forms say: samples, counts of faults, new faults. No condition. -/
import Derived.Test.YtpjpfdoaemoddaaHFault
import Derived.Test.YtpjpfdoaemoddaaHUtil
namespace Go.Proofs.Ytpjpfdoaemoddaa
open Go Go.RowKit
set_option linter.unusedSimpArgs false
set_option linter.unusedVariables false

/-! ### Samples -/

def smInv (count many : Int) (s : List Int × Int × Int × Int) : Prop := s.2.2.1 = many - s.1.length ∧ 0 ≤ s.2.2.1 ∧ s.2.2.1 ≤ count - s.2.2.2 ∧ 0 ≤ s.2.2.2 ∧ 0 ≤ s.2.1 ∧ s.2.1 ≤ 65536 ∧ s.1.length ≤ 100 ∧ (∀ x, x ∈ s.1 → 0 ≤ x ∧ x < s.2.2.2) ∧ s.1.Pairwise (· < ·)

def smX (x : Int) : Int := (x * 75 + 74) % 65537
theorem smX_in {x : Int} : 0 ≤ smX x ∧ smX x ≤ 65536 := by unfold smX; omega

theorem sm_x {x : Int} (h0 : 0 ≤ x) (h1 : x ≤ 65536) : (IntKind.i64.wrap ((IntKind.i64.wrap (x * 75)) + 74)).tmod 65537 = smX x ∧ (IntKind.i64.wrap ((IntKind.i64.wrap (75 * x)) + 74)).tmod 65537 = smX x := by
  rw [wrap_i64 (n := x * 75) (by omega) (by omega), wrap_i64 (n := 75 * x) (by omega) (by omega), wrap_i64 (n := x * 75 + 74) (by omega) (by omega), wrap_i64 (n := 75 * x + 74) (by omega) (by omega), Int.mul_comm 75 x,
    Int.tmod_eq_emod_of_nonneg (by omega)]
  exact ⟨rfl, rfl⟩

theorem sm_step {count many : Int} (hc : count ≤ 10000) (hm : many ≤ 100) {out : List Int} {x need i : Int} (h : smInv count many (out, x, need, i)) :
    spec_SampleOf_l1 count (out, x, need, i) = some (if 0 < need then (if smX x % (count - i) < need then .inl (out ++ [i], smX x, need - 1, i + 1) else .inl (out, smX x, need, i + 1)) else .inr out) ∧
    impl_SampleOf_l1 count many (out, x, i) = some (if 0 < need then (if smX x % (count - i) < need then .inl (out ++ [i], smX x, i + 1) else .inl (out, smX x, i + 1)) else .inr out) ∧
    (0 < need → (smX x % (count - i) < need → smInv count many (out ++ [i], smX x, need - 1, i + 1)) ∧ (¬ smX x % (count - i) < need → smInv count many (out, smX x, need, i + 1)) ∧ i < count) := by
  obtain ⟨h1, h2, h3, h4, h5, h6, h7, h8, h9⟩ := h
  simp only at h1 h2 h3 h4 h5 h6 h7 h8 h9
  obtain ⟨ex, ex2⟩ := sm_x h5 h6
  obtain ⟨x1, x2⟩ := @smX_in x
  by_cases hn : 0 < need
  · have hi : i < count := by omega
    have wc : IntKind.i64.wrap (count - i) = count - i := wrap_i64 (by omega) (by omega)
    have wi : IntKind.i64.wrap (i + 1) = i + 1 := wrap_i64 (by omega) (by omega)
    have wn : IntKind.i64.wrap (need - 1) = need - 1 := wrap_i64 (by omega) (by omega)
    have wm : IntKind.i64.wrap (many - (out.length : Int)) = need := by rw [wrap_i64 (by omega) (by omega), h1]
    have et : (smX x).tmod (count - i) = smX x % (count - i) := Int.tmod_eq_emod_of_nonneg x1
    have e0 : 0 ≤ smX x % (count - i) := Int.emod_nonneg _ (by omega)
    have e1 : smX x % (count - i) < count - i := Int.emod_lt_of_pos _ (by omega)
    have hl : (out.length : Int) < many := by omega
    refine ⟨?_, ?_, fun _ => ⟨fun hlt => ⟨?_, by show 0 ≤ need - 1; omega, by show need - 1 ≤ count - (i + 1); omega, by show 0 ≤ i + 1; omega, x1, x2, ?_, ?_, ?_⟩, fun hge => ⟨h1, h2, by show need ≤ count - (i + 1); omega, by show 0 ≤ i + 1; omega, x1, x2, h7, fun y hy => by have := h8 y hy; show 0 ≤ y ∧ y < i + 1; omega, h9⟩, hi⟩⟩
    · simp only [spec_SampleOf_l1, hn, decide_true, if_true, nz_of (show (65537 : Int) ≠ 0 by decide), ck_true, ex, wc, et, nz_of (show count - i ≠ 0 by omega), wi, wn]
      rw [appOk_of (by simp; omega), ck_true]
      by_cases hlt : smX x % (count - i) < need <;> simp [hlt]
    · simp only [impl_SampleOf_l1, hi, hl, decide_true, Bool.and_self, if_true, nz_of (show (65537 : Int) ≠ 0 by decide), ck_true, ex2, wc, et, nz_of (show count - i ≠ 0 by omega), wi, wm]
      rw [appOk_of (by simp; omega), ck_true]
      by_cases hlt : smX x % (count - i) < need <;> simp [hlt, hn]
    · show need - 1 = many - ((out ++ [i]).length : Int)
      simp; omega
    · show (out ++ [i]).length ≤ 100
      simp; omega
    · intro y hy
      rcases List.mem_append.1 hy with hy | hy
      · have := h8 y hy; show 0 ≤ y ∧ y < i + 1; omega
      · have : y = i := by simpa using hy
        subst this; show 0 ≤ y ∧ y < y + 1; omega
    · rw [List.pairwise_append]
      refine ⟨h9, by simp, fun a ha b hb => ?_⟩
      have : b = i := by simpa using hb
      subst this; exact (h8 a ha).2
  · have hl : ¬ (out.length : Int) < many := by omega
    exact ⟨by simp [spec_SampleOf_l1, hn], by simp [impl_SampleOf_l1, hn, hl], fun c => absurd c hn⟩


theorem SampleOf_same (count many seed : Int) : ∃ l c, l.length ≤ 100 ∧ spec_SampleOf count many seed = some (l, c) ∧ impl_SampleOf count many seed = some (l, c) ∧ (c = 0 → (l.length : Int) = many ∧ (∀ x, x ∈ l → 0 ≤ x ∧ x < count) ∧ l.Pairwise (· < ·)) := by
  unfold spec_SampleOf impl_SampleOf
  simp only [spec_l00In_is, impl_in_is, Option.bind_some, Option.isSome_some, Option.getD_some, Bool.or_true, ck_true]
  by_cases hb : (((!((decide (0 ≤ count)) && (decide (count ≤ 10000)))) || (!((decide (0 ≤ many)) && (decide (many ≤ 100))))) || (!((decide (0 ≤ seed)) && (decide (seed ≤ 65535))))) = true
  · rw [if_pos hb, if_pos hb]
    exact ⟨[], 2, by simp, rfl, rfl, fun c => absurd c (by decide)⟩
  · rw [if_neg hb, if_neg hb]
    by_cases hcm : count < many
    · exact ⟨[], 6, by simp, by simp [hcm], by simp [hcm], fun c => absurd c (by decide)⟩
    · simp only [hcm, decide_false, Bool.false_eq_true, if_false]
      have hr : (0 ≤ count ∧ count ≤ 10000) ∧ (0 ≤ many ∧ many ≤ 100) ∧ (0 ≤ seed ∧ seed ≤ 65535) := by
        simp only [Bool.or_eq_true, Bool.not_eq_true', Bool.and_eq_false_iff, decide_eq_false_iff_not] at hb
        omega
      have hi0 : smInv count many (([] : List Int), seed, many, 0) := by
        refine ⟨by simp, ?_, ?_, ?_, ?_, ?_, by simp, fun x hx => absurd hx (by simp), by simp⟩ <;> simp only <;> omega
      obtain ⟨y, hy, hlen, hq1, hq2, hq3⟩ := while_post (step := spec_SampleOf_l1 count) (smInv count many) (fun y => y.length ≤ 100 ∧ (y.length : Int) = many ∧ (∀ x, x ∈ y → 0 ≤ x ∧ x < count) ∧ y.Pairwise (· < ·)) (fun s => (count - s.2.2.2).toNat) (by
        rintro ⟨out, x, need, i⟩ h
        obtain ⟨e, _, h3⟩ := sm_step hr.1.2 hr.2.1.2 h
        rw [e]
        by_cases hn : 0 < need
        · obtain ⟨a1, a2, a3⟩ := h3 hn
          rw [if_pos hn]
          by_cases hlt : smX x % (count - i) < need
          · rw [if_pos hlt]; exact .inl ⟨_, rfl, a1 hlt, by simp only; omega⟩
          · rw [if_neg hlt]; exact .inl ⟨_, rfl, a2 hlt, by simp only; omega⟩
        · rw [if_neg hn]
          obtain ⟨h1, h2, h3, h4, h5, h6, h7, h8, h9⟩ := h
          simp only at h1 h2 h3 h4 h8
          exact .inr ⟨_, rfl, h7, by omega, fun y hy => by have := h8 y hy; omega, h9⟩) hi0
      have hs := while_sim (step := spec_SampleOf_l1 count) (step' := impl_SampleOf_l1 count many) (fun s => (s.1, s.2.1, s.2.2.2)) id (smInv count many) (by
        rintro ⟨out, x, need, i⟩ h
        obtain ⟨e, e2, _⟩ := sm_step hr.1.2 hr.2.1.2 h
        simp only
        rw [e, e2]
        by_cases hn : 0 < need <;> by_cases hlt : smX x % (count - i) < need <;> simp [hn, hlt]) (by
        rintro ⟨out, x, need, i⟩ s' h hst
        obtain ⟨e, _, h3⟩ := sm_step hr.1.2 hr.2.1.2 h
        rw [e] at hst
        by_cases hn : 0 < need
        · obtain ⟨a1, a2, a3⟩ := h3 hn
          rw [if_pos hn] at hst
          by_cases hlt : smX x % (count - i) < need
          · rw [if_pos hlt] at hst; cases hst; exact a1 hlt
          · rw [if_neg hlt] at hst; cases hst; exact a2 hlt
        · rw [if_neg hn] at hst; cases hst) hi0 hy
      refine ⟨y, 0, hlen, by rw [hy]; rfl, ?_, fun _ => ⟨hq1, hq2, hq3⟩⟩
      simp only at hs
      rw [hs]; rfl

/-! ### CountFaults -/

theorem count_step (f : List Fault) : impl_CountFaults_l1 f (f.length : Int) = spec_CountFaults_l1 f := id rfl

theorem sum_set {l : List Int} {i : Nat} (h : i < l.length) (v : Int) : (l.set i v).sum = l.sum - l.getD i default + v := by
  induction l generalizing i with
  | nil => simp at h
  | cons a r ih =>
    cases i with
    | zero => simp; omega
    | succ i =>
      have := ih (i := i) (by simpa using h)
      simp only [List.set_cons_succ, List.sum_cons, List.getD_cons_succ, this]
      omega

theorem CountFaults_same {f : List Fault} (hl : f.length ≤ 1048576) : ∃ l c, l.length ≤ 5 ∧ spec_CountFaults f = some (l, c) ∧ impl_CountFaults f = some (l, c) ∧ (c = 0 → l.sum = (f.length : Int) ∧ ∀ x, x ∈ l → 0 ≤ x ∧ x ≤ f.length) := by
  unfold spec_CountFaults impl_CountFaults
  rw [l26Faults_is (by omega) (by omega) (by omega), ordered_is (by omega) (by omega) (by omega)]
  simp only [Option.bind_some]
  cases hg : goodF 100 f with
  | false => exact ⟨[], 2, by simp, rfl, rfl, fun c => absurd c (by decide)⟩
  | true =>
    simp only [Bool.not_true, Bool.false_eq_true, if_false, count_step, mkOk_of (show (0 : Int) ≤ 5 by decide) (show 1 ≤ 8 by decide) (by decide), ck_true]
    obtain ⟨y, hy, hq, hq2, hq3⟩ := while_post (step := spec_CountFaults_l1 f) (fun s => s.1.length = 5 ∧ (s.1.sum = s.2 ∧ ∀ x, x ∈ s.1 → 0 ≤ x ∧ x ≤ s.2) ∧ ∃ i : Nat, s.2 = (i : Int) ∧ i ≤ f.length) (fun y => y.length = 5 ∧ y.sum = (f.length : Int) ∧ ∀ x, x ∈ y → 0 ≤ x ∧ x ≤ f.length) (fun s => f.length - s.2.toNat) (by
      rintro ⟨out, i⟩ ⟨ho, ⟨hsum, hall⟩, i, rfl, hi⟩
      simp only at ho hsum hall
      by_cases h : i < f.length
      · obtain ⟨k1, k2⟩ := goodF_kind hg h
        left
        simp only [spec_CountFaults_l1, Int.ofNat_lt, h, decide_true, if_true, ixOk_nat, ck_true, Int.toNat_natCast, wrap_nat1 (show i < 9223372036854775807 by omega)]
        rw [wrap_i64 (n := (f.getD i default).Kind - 1) (by omega) (by omega), ixOk_of (by omega) (by omega), ck_true]
        have hk : ((f.getD i default).Kind - 1).toNat < out.length := by omega
        have hv := hall _ (getD_mem hk default)
        rw [wrap_i64 (n := out.getD ((f.getD i default).Kind - 1).toNat default + 1) (by omega) (by omega)]
        refine ⟨_, rfl, ⟨by simpa using ho, ⟨?_, ?_⟩, i + 1, rfl, by omega⟩, by simp only [Int.toNat_natCast]; omega⟩
        · show (out.set _ _).sum = ((i + 1 : Nat) : Int)
          rw [sum_set hk, hsum]; omega
        · intro x hx
          rcases List.mem_or_eq_of_mem_set hx with hx | hx
          · have := hall x hx; show 0 ≤ x ∧ x ≤ ((i + 1 : Nat) : Int); omega
          · subst hx; show 0 ≤ _ ∧ _ ≤ ((i + 1 : Nat) : Int); omega
      · right
        have : i = f.length := by omega
        subst this
        exact ⟨out, by simp [spec_CountFaults_l1], ho, hsum, hall⟩) (s := (List.replicate 5 0, 0)) ⟨by simp, ⟨by simp, fun x hx => by simp at hx; omega⟩, 0, rfl, by omega⟩
    refine ⟨y, 0, by omega, ?_, ?_, fun _ => ⟨hq2, hq3⟩⟩ <;> · rw [hy]; rfl

/-! ### NewFaults -/

theorem index_step {f : List Fault} {v : Fault} {i : Nat} (hi : i < f.length) (hl : f.length ≤ 1099511627776) :
    slices_Index_impl_Fault_impl_Fault_l1 f v (f.length : Int) (i : Int) = some (if (v == f.getD i default) = true then .inr (.inr (i : Int)) else .inl ((i + 1 : Nat) : Int)) := by
  have e : ((v.Index == ((f.getD i default).Index)) && (v.Kind == ((f.getD i default).Kind))) = (v == f.getD i default) := by
    rw [Bool.eq_iff_iff]
    obtain ⟨a, b⟩ := v
    generalize f.getD i default = x
    obtain ⟨c, d⟩ := x
    simp [Fault.mk.injEq]
  simp only [slices_Index_impl_Fault_impl_Fault_l1, ixOk_nat, hi, decide_true, ck_true, Int.ofNat_lt, if_true, Int.toNat_natCast, wrap_nat1 (show i < 9223372036854775807 by omega), e]
  cases (v == f.getD i default) <;> rfl

theorem contains_is {f : List Fault} {v : Fault} (hl : f.length ≤ 1099511627776) : slices_Contains_impl_Fault_impl_Fault f v = some (f.any (v == ·)) := by
  unfold slices_Contains_impl_Fault_impl_Fault slices_Index_impl_Fault_impl_Fault
  have key : ∀ m i : Nat, i + m = f.length → (∃ j : Nat, whileE (slices_Index_impl_Fault_impl_Fault_l1 f v (f.length : Int)) (i : Int) = some (.inr (j : Int)) ∧ (f.drop i).any (v == ·) = true) ∨ (whileE (slices_Index_impl_Fault_impl_Fault_l1 f v (f.length : Int)) (i : Int) = some (.inl ()) ∧ (f.drop i).any (v == ·) = false) := by
    intro m
    induction m with
    | zero =>
      intro i hi
      obtain rfl : i = f.length := by omega
      right
      exact ⟨whileE_done (by simp [slices_Index_impl_Fault_impl_Fault_l1]), by simp⟩
    | succ m ih =>
      intro i hi
      have hlt : i < f.length := by omega
      have hs := index_step (v := v) hlt hl
      rw [List.drop_eq_getElem_cons hlt, List.any_cons, ← getD_lt hlt default]
      by_cases hv : (v == f.getD i default) = true
      · rw [if_pos hv] at hs
        exact .inl ⟨i, whileE_done hs, by rw [hv]; rfl⟩
      · rw [if_neg hv] at hs
        have hv2 : (v == f.getD i default) = false := by simpa using hv
        rw [whileE_next hs, hv2, Bool.false_or]
        exact ih (i + 1) (by omega)
  rcases key f.length 0 (by omega) with ⟨j, h1, h2⟩ | ⟨h1, h2⟩
  · rw [show ((0 : Nat) : Int) = 0 from rfl] at h1
    rw [List.drop_zero] at h2
    simp [h1, h2]
  · rw [show ((0 : Nat) : Int) = 0 from rfl] at h1
    rw [List.drop_zero] at h2
    simp [h1, h2]

theorem known_is {b n : List Fault} {out : List Fault} {i : Nat} (hb : b.length ≤ 1099511627776) (hi : i < n.length) : whileE (spec_NewFaults_l2 b n out (i : Int)) (false, 0) = some (b.any (n.getD i default == ·)) := by
  have := while_up (step := spec_NewFaults_l2 b n out (i : Int)) (fun k => (b.take k).any (n.getD i default == ·)) b.length (r := b.any (n.getD i default == ·)) (fun k hk => by
    have e : ((((b.getD k default).Index) == ((n.getD i default).Index)) && (((b.getD k default).Kind) == ((n.getD i default).Kind))) = (n.getD i default == b.getD k default) := by
      rw [Bool.eq_iff_iff]
      generalize n.getD i default = y
      obtain ⟨a, c⟩ := y
      generalize b.getD k default = x
      obtain ⟨d, g⟩ := x
      simp [Fault.mk.injEq]
      omega
    simp only [spec_NewFaults_l2, ixOk_nat, hk, hi, decide_true, ck_true, Int.ofNat_lt, if_true, Int.toNat_natCast, wrap_nat1 (show k < 9223372036854775807 by omega), Bool.or_true, e]
    rw [List.take_succ_eq_append_getElem hk, List.any_append, List.any_cons, List.any_nil, Bool.or_false, ← getD_lt hk default]) (by simp [spec_NewFaults_l2])
  simpa using this

theorem new_loop {b n : List Fault} (hb : b.length ≤ 1048576) (hn : n.length ≤ 1048576) :
    whileE (spec_NewFaults_l1 b n) (([] : List Fault), 0) = some (n.filter fun x => !b.any (x == ·)) ∧ impl_chosen_impl_Fault__impl_NewFaults_c1 n b = some (n.filter fun x => !b.any (x == ·)) := by
  have hlen : ∀ i, ((n.take i).filter fun x => !b.any (x == ·)).length ≤ 1048576 := fun i => by
    have := List.length_filter_le (fun x => !b.any (x == ·)) (n.take i)
    simp only [List.length_take] at this
    omega
  have hsucc : ∀ i, i < n.length → (n.take (i + 1)).filter (fun x => !b.any (x == ·)) = (n.take i).filter (fun x => !b.any (x == ·)) ++ if (b.any (n.getD i default == ·)) = true then [] else [n.getD i default] := by
    intro i hi
    rw [List.take_succ_eq_append_getElem hi, List.filter_append, ← getD_lt hi default, List.filter_cons, List.filter_nil]
    cases b.any (n.getD i default == ·) <;> rfl
  constructor
  · have := while_up (step := spec_NewFaults_l1 b n) (fun i => (n.take i).filter fun x => !b.any (x == ·)) n.length (r := n.filter fun x => !b.any (x == ·)) (fun i hi => by
      have := hlen i
      simp only [spec_NewFaults_l1, Int.ofNat_lt, hi, decide_true, if_true, known_is (show b.length ≤ 1099511627776 by omega) hi, Option.bind_some, ixOk_nat, ck_true, Int.toNat_natCast, wrap_nat1 (show i < 9223372036854775807 by omega)]
      rw [appOk_of (by simp only [List.length_cons, List.length_nil]; omega), ck_true, hsucc i hi]
      cases b.any (n.getD i default == ·) <;> simp) (by simp [spec_NewFaults_l1])
    simpa using this
  · have := while_up (step := impl_chosen_impl_Fault__impl_NewFaults_c1_l1 b n (n.length : Int)) (fun i => (n.take i).filter fun x => !b.any (x == ·)) n.length (r := n.filter fun x => !b.any (x == ·)) (fun i hi => by
      have := hlen i
      simp only [impl_chosen_impl_Fault__impl_NewFaults_c1_l1, impl_NewFaults_c1, contains_is (show b.length ≤ 1099511627776 by omega), Int.ofNat_lt, hi, decide_true, if_true, Option.bind_some, ixOk_nat, ck_true, Int.toNat_natCast, wrap_nat1 (show i < 9223372036854775807 by omega)]
      rw [appOk_of (by simp only [List.length_cons, List.length_nil]; omega), ck_true, hsucc i hi]
      cases b.any (n.getD i default == ·) <;> simp) (by simp [impl_chosen_impl_Fault__impl_NewFaults_c1_l1])
    unfold impl_chosen_impl_Fault__impl_NewFaults_c1
    simp only [List.take_zero, List.filter_nil] at this
    rw [this]; rfl

theorem NewFaults_same {b n : List Fault} (hb : b.length ≤ 1048576) (hn : n.length ≤ 1048576) : ∃ l c, l.length ≤ 1048576 ∧ spec_NewFaults b n = some (l, c) ∧ impl_NewFaults b n = some (l, c) ∧ (c = 0 → impl_NewFaults n n = some ([], 0)) := by
  unfold spec_NewFaults impl_NewFaults
  obtain ⟨e1, e2⟩ := new_loop hb hn
  obtain ⟨_, e3⟩ := new_loop hn hn
  simp only [l26Faults_is (show (0 : Int) ≤ 100 by decide) (show (100 : Int) ≤ 1099511627776 by decide) (show b.length ≤ 1099511627776 by omega), l26Faults_is (show (0 : Int) ≤ 100 by decide) (show (100 : Int) ≤ 1099511627776 by decide) (show n.length ≤ 1099511627776 by omega), ordered_is (show (0 : Int) ≤ 100 by decide) (show (100 : Int) ≤ 1099511627776 by decide) (show b.length ≤ 1099511627776 by omega), ordered_is (show (0 : Int) ≤ 100 by decide) (show (100 : Int) ≤ 1099511627776 by decide) (show n.length ≤ 1099511627776 by omega), Option.bind_some, Option.isSome_some, Option.getD_some, Bool.or_true, ck_true, e1, e2, e3]
  by_cases h : (!goodF 100 b || !goodF 100 n) = true
  · rw [h]; exact ⟨[], 2, by simp, rfl, rfl, fun c => absurd c (by decide)⟩
  · have h2 : (!goodF 100 b || !goodF 100 n) = false := by simpa using h
    have h3 : (!goodF 100 n || !goodF 100 n) = false := by
      revert h2
      cases goodF 100 b <;> cases goodF 100 n <;> simp
    rw [h2, h3]
    refine ⟨_, 0, Nat.le_trans (List.length_filter_le _ _) hn, rfl, rfl, fun _ => ?_⟩
    have : (n.filter fun x => !n.any (x == ·)) = [] := by
      rw [List.filter_eq_nil_iff]
      intro x hx
      have : n.any (x == ·) = true := List.any_eq_true.2 ⟨x, hx, beq_self_eq_true x⟩
      rw [this]; exact Bool.false_ne_true
    rw [this]; rfl

end Go.Proofs.Ytpjpfdoaemoddaa
