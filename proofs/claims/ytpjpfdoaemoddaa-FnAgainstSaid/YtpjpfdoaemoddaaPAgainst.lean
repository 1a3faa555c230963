/- The plain law of FnAgainst. No condition. -/
import Derived.Test.YtpjpfdoaemoddaaHDrawE
namespace Go.Proofs.Ytpjpfdoaemoddaa
open Go Go.RowKit
set_option linter.unusedSimpArgs false
set_option linter.unusedVariables false

theorem A2Estimates_is {c : List UInt8} (hc : c.length ≤ 1099511627776) : ∃ l, spec_A2Estimates c = some l ∧ goodE l = true ∧ l.length ≤ 12 := by
  obtain ⟨l, s', e, hg, hl, _⟩ := l06Draw_is (m := 1000) ((srcN_from hc).le (by omega)) (most := 12) (by omega)
  unfold spec_A2Estimates
  have e' : spec_l06Draw ⟨c, 0, 0⟩ 12 = some (l, s') := e
  exact ⟨l, by rw [From_is, Option.bind_some, e']; rfl, hg, hl⟩

/-! ### Which estimates contradict each other -/

def againstP (a b : Estimate) (y : Int) : Bool :=
  if (a.Fainter && b.Fainter) = true then false else if a.Fainter = true then decide (b.Mag + y < a.Mag) else if b.Fainter = true then decide (a.Mag + y < b.Mag) else decide (y < ((a.Mag - b.Mag).natAbs : Int))

theorem contradict_same : impl_contradict = spec_l06Against := id rfl

theorem abs_is {n : Int} (h : n.natAbs ≤ 1000000000000) : impl_abs n = some (n.natAbs : Int) := by
  unfold impl_abs
  by_cases c : n < 0
  · simp only [c, decide_true, if_true]
    rw [wrap_i64 (by omega) (by omega)]
    congr 1; omega
  · simp only [c, decide_false, Bool.false_eq_true, if_false]
    congr 1; omega

theorem against_is {a b : Estimate} {y : Int} (ha : oneE a = true) (hb : oneE b = true) (h0 : 0 ≤ y) (h1 : y ≤ 20000) : spec_l06Against a b y = some (againstP a b y) := by
  obtain ⟨_, _, a1, a2⟩ := oneE_in ha
  obtain ⟨_, _, b1, b2⟩ := oneE_in hb
  have e : spec_l02Size = impl_abs := id rfl
  unfold spec_l06Against againstP
  rw [wrap_i64 (n := b.Mag + y) (by omega) (by omega), wrap_i64 (n := a.Mag + y) (by omega) (by omega), wrap_i64 (n := a.Mag - b.Mag) (by omega) (by omega), e, abs_is (by omega)]
  simp only [Option.bind_some]
  repeat' split
  all_goals first | rfl | contradiction

theorem against_mono {a b : Estimate} {y z : Int} (h : y ≤ z) (hz : againstP a b z = true) : againstP a b y = true := by
  unfold againstP at hz ⊢
  split at hz
  · cases hz
  · rename_i h1
    rw [if_neg h1]
    split at hz
    · rename_i h2
      rw [if_pos h2]
      have := of_decide_eq_true hz
      exact decide_eq_true (by omega)
    · rename_i h2
      rw [if_neg h2]
      split at hz
      · rename_i h3
        rw [if_pos h3]
        have := of_decide_eq_true hz
        exact decide_eq_true (by omega)
      · rename_i h3
        rw [if_neg h3]
        have := of_decide_eq_true hz
        exact decide_eq_true (by omega)

/-- Estimates i and k of a list contradict each other. -/
def cB (l : List Estimate) (ap y : Int) (i k : Nat) : Bool :=
  ((l.getD i default).Star == (l.getD k default).Star && decide ((l.getD k default).Time - (l.getD i default).Time ≤ ap)) && againstP (l.getD i default) (l.getD k default) y

/-! ### All pairs -/

def rowP (c : Nat → Nat → Bool) (i d : Nat) : List (List Int) := ((List.range d).filter fun t => c i (i + 1 + t)).map fun t => [(i : Int), ((i + 1 + t : Nat) : Int)]
def pairsP (c : Nat → Nat → Bool) (n m : Nat) : List (List Int) := (List.range m).flatMap fun i => rowP c i (n - (i + 1))

theorem rowP_succ (c : Nat → Nat → Bool) (i d : Nat) : rowP c i (d + 1) = rowP c i d ++ if c i (i + 1 + d) = true then [[(i : Int), ((i + 1 + d : Nat) : Int)]] else [] := by
  unfold rowP
  rw [List.range_succ, List.filter_append, List.map_append]
  congr 1
  by_cases h : c i (i + 1 + d) = true
  · rw [if_pos h]; simp [h]
  · rw [if_neg h]; simp [h]

theorem rowP_len (c : Nat → Nat → Bool) (i d : Nat) : (rowP c i d).length ≤ d := by
  unfold rowP
  rw [List.length_map]
  exact Nat.le_trans (List.length_filter_le _ _) (by simp)

theorem pairsP_succ (c : Nat → Nat → Bool) (n m : Nat) : pairsP c n (m + 1) = pairsP c n m ++ rowP c m (n - (m + 1)) := by
  unfold pairsP
  rw [List.range_succ, List.flatMap_append]; simp

theorem pairsP_len (c : Nat → Nat → Bool) (n : Nat) : ∀ m : Nat, (pairsP c n m).length ≤ n * m
  | 0 => by simp [pairsP]
  | m + 1 => by
    have := pairsP_len c n m
    have := rowP_len c m (n - (m + 1))
    rw [pairsP_succ, List.length_append, Nat.mul_add, Nat.mul_one]
    omega

theorem rowP_mono {c e : Nat → Nat → Bool} (i : Nat) (h : ∀ k, c i k = true → e i k = true) (d : Nat) : (rowP c i d).length ≤ (rowP e i d).length := by
  unfold rowP
  rw [List.length_map, List.length_map, ← List.countP_eq_length_filter, ← List.countP_eq_length_filter]
  exact List.countP_mono_left fun x _ hx => h _ hx

theorem pairsP_mono {c e : Nat → Nat → Bool} (h : ∀ i k, c i k = true → e i k = true) (n : Nat) : ∀ m : Nat, (pairsP c n m).length ≤ (pairsP e n m).length
  | 0 => by simp [pairsP]
  | m + 1 => by
    have := pairsP_mono h n m
    have := rowP_mono m (h m) (n - (m + 1))
    rw [pairsP_succ, pairsP_succ, List.length_append, List.length_append]
    omega

theorem pairsP_mem {c : Nat → Nat → Bool} {n m : Nat} (hm : m ≤ n) {x : List Int} (hx : x ∈ pairsP c n m) : ∃ i k : Nat, x = [(i : Int), (k : Int)] ∧ i < k ∧ k < n ∧ c i k = true := by
  unfold pairsP rowP at hx
  simp only [List.mem_flatMap, List.mem_map, List.mem_filter, List.mem_range] at hx
  obtain ⟨i, hi, t, ⟨ht, hc⟩, rfl⟩ := hx
  exact ⟨i, i + 1 + t, rfl, by omega, by omega, hc⟩

/-- The loop within. -/
theorem inner_pairs {c : Nat → Nat → Bool} {n i : Nat} (hn : n ≤ 1000) (hi : i < n) {step : List (List Int) × Int → Option ((List (List Int) × Int) ⊕ List (List Int))}
    (hs : ∀ (out : List (List Int)) (k : Nat), i < k → k < n → out.length ≤ 2000000 → step (out, (k : Int)) = some (.inl (out ++ (if c i k = true then [[(i : Int), (k : Int)]] else []), ((k + 1 : Nat) : Int))))
    (he : ∀ out, step (out, (n : Int)) = some (.inr out)) {out : List (List Int)} (ho : out.length ≤ 1000000) : whileE step (out, ((i + 1 : Nat) : Int)) = some (out ++ rowP c i (n - (i + 1))) := by
  have := whileE_run (step := step) (fun d => (out ++ rowP c i d, ((i + 1 + d : Nat) : Int))) (n - (i + 1)) (r := out ++ rowP c i (n - (i + 1))) (fun d hd => by
    have hl := rowP_len c i d
    rw [hs _ (i + 1 + d) (by omega) (by omega) (by rw [List.length_append]; omega), rowP_succ, List.append_assoc]
    rfl) (by
    rw [show i + 1 + (n - (i + 1)) = n by omega]
    exact he _)
  simpa [rowP] using this

theorem outer_pairs {c : Nat → Nat → Bool} {n : Nat} (hn : n ≤ 1000) {step : List (List Int) × Int → Option ((List (List Int) × Int) ⊕ List (List Int))}
    (hs : ∀ (out : List (List Int)) (i : Nat), i < n → out.length ≤ 1000000 → step (out, (i : Int)) = some (.inl (out ++ rowP c i (n - (i + 1)), ((i + 1 : Nat) : Int))))
    (he : ∀ out, step (out, (n : Int)) = some (.inr out)) : whileE step ([], 0) = some (pairsP c n n) := by
  have := while_up (step := step) (fun i => pairsP c n i) n (r := pairsP c n n) (fun i hi => by
    have hl := pairsP_len c n i
    have h2 : n * i ≤ 1000 * 1000 := Nat.mul_le_mul hn (by omega)
    rw [hs _ i hi (by omega), pairsP_succ]) (he _)
  simpa [pairsP] using this

section
variable {l : List Estimate} {ap y : Int}

theorem closure_is (hg : goodE l = true) (h0 : 0 ≤ y) (h1 : y ≤ 20000) {i k : Nat} (hik : i < k) (hk : k < l.length) : impl_Contradictions_c1 (i : Int) (k : Int) l ap y = some (cB l ap y i k) := by
  have gi := (goodE_nb hg (show i < l.length by omega)).1
  have gk := (goodE_nb hg hk).1
  obtain ⟨i1, i2, _, _⟩ := oneE_in gi
  obtain ⟨k1, k2, _, _⟩ := oneE_in gk
  have ht := times_rise hg (k - i) i (by omega)
  rw [show i + (k - i) = k by omega] at ht
  unfold impl_Contradictions_c1 cB
  simp only [ixOk_nat, hk, show i < l.length by omega, decide_true, ck_true, Int.toNat_natCast]
  have ew : IntKind.i64.wrap ((l.getD i default).Time - (l.getD k default).Time) = (l.getD i default).Time - (l.getD k default).Time := wrap_i64 (by omega) (by omega)
  have ea := abs_is (n := (l.getD i default).Time - (l.getD k default).Time) (by omega)
  have en : ((((l.getD i default).Time - (l.getD k default).Time).natAbs : Nat) : Int) = (l.getD k default).Time - (l.getD i default).Time := by omega
  simp only [ew, ea, contradict_same, against_is gi gk h0 h1, Option.isSome_some, Option.getD_some, Bool.or_true, ck_true, en]

theorem impl_pairs_is (hg : goodE l = true) (hl : l.length ≤ 100) (h0 : 0 ≤ y) (h1 : y ≤ 20000) : impl_pairsWhere__impl_Contradictions_c1 (l.length : Int) l ap y = some (pairsP (cB l ap y) l.length l.length) := by
  unfold impl_pairsWhere__impl_Contradictions_c1
  rw [outer_pairs (c := cB l ap y) (n := l.length) (by omega) (step := impl_pairsWhere__impl_Contradictions_c1_l1 (l.length : Int) l ap y (l.length : Int)) (fun out i hi ho => by
    simp only [impl_pairsWhere__impl_Contradictions_c1_l1, Int.ofNat_lt, hi, decide_true, if_true, wrap_nat1 (show i < 9223372036854775807 by omega)]
    rw [inner_pairs (c := cB l ap y) (n := l.length) (i := i) (by omega) hi (step := impl_pairsWhere__impl_Contradictions_c1_l2 (l.length : Int) l ap y (i : Int) (l.length : Int) (i : Int)) (fun out k h2 h3 h4 => by
      simp only [impl_pairsWhere__impl_Contradictions_c1_l2, Int.ofNat_lt, h3, decide_true, if_true, closure_is hg h0 h1 h2 h3, Option.bind_some, wrap_nat1 (show k < 9223372036854775807 by omega)]
      rw [appOk_of (by simp; omega), ck_true]
      by_cases hc : cB l ap y i k = true
      · rw [if_pos hc, if_pos hc]
      · rw [if_neg hc, if_neg hc, List.append_nil]) (fun out => by simp [impl_pairsWhere__impl_Contradictions_c1_l2]) ho]
    rfl) (fun out => by simp [impl_pairsWhere__impl_Contradictions_c1_l1])]
  rfl

theorem spec_pairs_is (hg : goodE l = true) (hl : l.length ≤ 100) (h0 : 0 ≤ y) (h1 : y ≤ 20000) : whileE (spec_Contradictions_l1 l ap y) ([], 0) = some (pairsP (cB l ap y) l.length l.length) :=
  outer_pairs (c := cB l ap y) (n := l.length) (by omega) (step := spec_Contradictions_l1 l ap y) (fun out i hi ho => by
    simp only [spec_Contradictions_l1, Int.ofNat_lt, hi, decide_true, if_true, wrap_nat1 (show i < 9223372036854775807 by omega)]
    rw [inner_pairs (c := cB l ap y) (n := l.length) (i := i) (by omega) hi (step := spec_Contradictions_l2 l ap y (i : Int)) (fun out k h2 h3 h4 => by
      have gi := (goodE_nb hg hi).1
      have gk := (goodE_nb hg h3).1
      obtain ⟨i1, i2, _, _⟩ := oneE_in gi
      obtain ⟨k1, k2, _, _⟩ := oneE_in gk
      simp only [spec_Contradictions_l2, Int.ofNat_lt, h3, hi, decide_true, if_true, ixOk_nat, ck_true, Int.toNat_natCast, wrap_nat1 (show k < 9223372036854775807 by omega)]
      have ew : IntKind.i64.wrap ((l.getD k default).Time - (l.getD i default).Time) = (l.getD k default).Time - (l.getD i default).Time := wrap_i64 (by omega) (by omega)
      simp only [ew, against_is gi gk h0 h1, Option.isSome_some, Option.getD_some, Bool.or_true, ck_true]
      rw [appOk_of (by simp; omega), ck_true]
      unfold cB
      by_cases hc : (((l.getD i default).Star == (l.getD k default).Star && decide ((l.getD k default).Time - (l.getD i default).Time ≤ ap)) && againstP (l.getD i default) (l.getD k default) y) = true
      · rw [if_pos hc, if_pos hc]
      · rw [if_neg hc, if_neg hc, List.append_nil]) (fun out => by simp [spec_Contradictions_l2]) ho]
    rfl) (fun out => by simp [spec_Contradictions_l1])

theorem impl_Contradictions_is (hg : goodE l = true) (hl : l.length ≤ 100) (a0 : 0 ≤ ap) (a1 : ap ≤ 100000) (h0 : 1 ≤ y) (h1 : y ≤ 20000) : impl_Contradictions l ap y = some (pairsP (cB l ap y) l.length l.length, 0) := by
  unfold impl_Contradictions
  rw [ValidEstimates_is (by omega), hg, impl_in_is, impl_in_is, impl_pairs_is hg hl (by omega) h1]
  simp [hl, a0, a1, h0, h1, ck]

theorem spec_Contradictions_is (hg : goodE l = true) (hl : l.length ≤ 100) (a0 : 0 ≤ ap) (a1 : ap ≤ 100000) (h0 : 1 ≤ y) (h1 : y ≤ 20000) : spec_Contradictions l ap y = some (pairsP (cB l ap y) l.length l.length, 0) := by
  unfold spec_Contradictions
  rw [l06Ok_is (by omega), hg, spec_l00In_is, spec_l00In_is, spec_pairs_is hg hl (by omega) h1]
  simp [hl, a0, a1, h0, h1, ck]
end

theorem a2At_is (b : List UInt8) (hl : b.length ≤ 1099511627776) (i : Nat) : ∃ v, laws_a2At b (i : Int) 256 = some v ∧ 0 ≤ v ∧ v ≤ 255 := by
  unfold laws_a2At
  by_cases h : (b.length : Int) ≤ (i : Int)
  · exact ⟨0, by simp [h], by omega, by omega⟩
  · have e : (decide ((b.length : Int) ≤ (i : Int)) || decide ((256 : Int) < 1)) = false := by simp [h]
    rw [e]
    simp only [Bool.false_eq_true, if_false]
    rw [ixOk_of (by omega) (by omega), ck_true, nz_of (by decide), ck_true, Int.toNat_natCast]
    have := UInt8.toNat_lt (b.getD i default)
    refine ⟨_, rfl, ?_, ?_⟩ <;> rw [Int.tmod_eq_emod_of_nonneg (by omega)] <;> omega

theorem a2Rises_is {n : Int} {l : List Int} (hl : l.length ≤ 1000) (h1 : ∀ x, x ∈ l → 0 ≤ x ∧ x < n) (h2 : l.Pairwise (· < ·)) : laws_a2Rises l n = some true := by
  unfold laws_a2Rises
  have := while_all (step := laws_a2Rises_l1 l n) (fun _ => true) l.length true (yes := .inl ()) (no := .inr false) (by simp) (fun i hi => by
    have hx := h1 _ (getD_mem hi default)
    have a1 : ¬ l.getD i default < 0 := by omega
    have a2 : ¬ n ≤ l.getD i default := by omega
    simp only [laws_a2Rises_l1, Int.ofNat_lt, hi, decide_true, if_true, ixOk_nat, ck_true, Int.toNat_natCast, wrap_nat1 (show i < 9223372036854775807 by omega), a1, a2, decide_false, Bool.or_self, Bool.not_false, Bool.true_and, Bool.false_or]
    by_cases h0 : 0 < i
    · have w1 : IntKind.i64.wrap ((i : Int) - 1) = ((i - 1 : Nat) : Int) := by rw [wrap_i64 (by omega) (by omega)]; omega
      have ok1 : ixOk ((i - 1 : Nat) : Int) l.length = true := by rw [ixOk_nat]; simp; omega
      have hlt : ¬ l.getD i default ≤ l.getD (i - 1) default := by
        have := List.pairwise_iff_getElem.1 h2 (i - 1) i (by omega) hi (by omega)
        rw [getD_lt hi, getD_lt (show i - 1 < l.length by omega)]
        omega
      have e0 : decide ((0 : Int) < (i : Int)) = true := by simpa using h0
      simp only [e0, w1, ok1, Bool.or_true, ck_true, Int.toNat_natCast, hlt, decide_false, Bool.and_false, Bool.false_eq_true, if_false]
    · have e0 : decide ((0 : Int) < (i : Int)) = false := by simpa using h0
      simp only [e0, Bool.not_false, Bool.true_or, ck_true, Bool.false_and, Bool.false_eq_true, if_false]) (by simp [laws_a2Rises_l1])
  rw [this]; rfl

theorem a2Rises_pair {i k n : Nat} (h1 : i < k) (h2 : k < n) : laws_a2Rises [(i : Int), (k : Int)] (n : Int) = some true :=
  a2Rises_is (by simp) (fun x hx => by
    simp only [List.mem_cons, List.not_mem_nil, or_false] at hx
    rcases hx with rfl | rfl <;> omega) (by simp; omega)

theorem against_loop {l : List Estimate} {ap y : Int} (hg : goodE l = true) (hl : l.length ≤ 12) (a0 : 0 ≤ ap) (a1 : ap ≤ 100000) : whileE (laws_FnAgainst_l1 l ap (pairsP (cB l ap y) l.length l.length)) 0 = some (.inl ()) := by
  have hlen := pairsP_len (cB l ap y) l.length l.length
  have h144 : l.length * l.length ≤ 12 * 12 := Nat.mul_le_mul hl hl
  have := while_all (step := laws_FnAgainst_l1 l ap (pairsP (cB l ap y) l.length l.length)) (fun _ => true) (pairsP (cB l ap y) l.length l.length).length true (yes := .inl ()) (no := .inr false) (by simp) (fun j hj => by
    obtain ⟨i, k, hx, h1, h2, h3⟩ := pairsP_mem (Nat.le_refl _) (getD_mem hj default)
    have hi : i < l.length := by omega
    obtain ⟨i1, i2, _, _⟩ := oneE_in (goodE_nb hg hi).1
    obtain ⟨k1, k2, _, _⟩ := oneE_in (goodE_nb hg h2).1
    unfold cB at h3
    simp only [Bool.and_eq_true, decide_eq_true_eq] at h3
    obtain ⟨⟨c1, c2⟩, c3⟩ := h3
    have e0 : ([(i : Int), (k : Int)] : List Int).getD 0 default = (i : Int) := rfl
    have e1 : ([(i : Int), (k : Int)] : List Int).getD 1 default = (k : Int) := rfl
    have e2 : ixOk 0 ([(i : Int), (k : Int)] : List Int).length = true := rfl
    have e3 : ixOk 1 ([(i : Int), (k : Int)] : List Int).length = true := rfl
    have e4 : ((([(i : Int), (k : Int)] : List Int).length : Int) == 2) = true := rfl
    have e5 : ((l.getD i default).Fainter && (l.getD k default).Fainter) = false := by
      cases hb : ((l.getD i default).Fainter && (l.getD k default).Fainter) with
      | false => rfl
      | true => unfold againstP at c3; rw [if_pos hb] at c3; cases c3
    have e6 : ¬ ap < (l.getD k default).Time - (l.getD i default).Time := by omega
    simp only [laws_FnAgainst_l1, Int.ofNat_lt, hj, decide_true, if_true, ixOk_nat, ck_true, Int.toNat_natCast, wrap_nat1 (show j < 9223372036854775807 by omega), hx, a2Rises_pair h1 h2, Option.bind_some, Bool.not_true, Bool.or_self, Bool.false_eq_true, if_false, e0, e1, e2, e3, e4, hi, h2, c1, e5, Bool.false_or, Bool.or_false]
    have ew : IntKind.i64.wrap ((l.getD k default).Time - (l.getD i default).Time) = (l.getD k default).Time - (l.getD i default).Time := wrap_i64 (by omega) (by omega)
    simp only [ew, e6, decide_false, Bool.false_eq_true, if_false]) (by simp [laws_FnAgainst_l1])
  simpa using this

theorem law_Against {code more : List UInt8} (w : code.length ≤ maxLen) (w2 : more.length ≤ maxLen) : laws_FnAgainst code more = some true := by
  unfold laws_FnAgainst laws_a2Long
  simp only [Option.bind_some]
  by_cases hb : (decide (3000 < (code.length : Int)) || decide (3000 < (more.length : Int))) = true
  · rw [if_pos hb]
  · rw [if_neg hb]
    simp only [Bool.or_eq_true, decide_eq_true_eq] at hb
    have hc : code.length ≤ 1099511627776 := by omega
    obtain ⟨l, e1, hg, hl⟩ := A2Estimates_is hc
    obtain ⟨u, e2, u0, u1⟩ := a2At_is more (by omega) 0
    obtain ⟨v, e3, v0, v1⟩ := a2At_is more (by omega) 1
    have e2' : laws_a2At more 0 256 = some u := e2
    have e3' : laws_a2At more 1 256 = some v := e3
    simp only [e1, e2', e3', Option.bind_some]
    rw [wrap_i64 (n := 100 * u) (by omega) (by omega), wrap_i64 (n := 5 * v) (by omega) (by omega), wrap_i64 (n := 1 + 5 * v) (by omega) (by omega), wrap_i64 (n := 1 + 5 * v + 100) (by omega) (by omega), wrap_i64 (n := 100 * u + 500) (by omega) (by omega)]
    rw [impl_Contradictions_is hg (by omega) (by omega) (by omega) (by omega) (by omega), impl_Contradictions_is hg (by omega) (by omega) (by omega) (by omega) (by omega), impl_Contradictions_is hg (by omega) (by omega) (by omega) (by omega) (by omega), spec_Contradictions_is hg (by omega) (by omega) (by omega) (by omega) (by omega)]
    simp only [Option.bind_some]
    have m1 : (pairsP (cB l (100 * u) (1 + 5 * v + 100)) l.length l.length).length ≤ (pairsP (cB l (100 * u) (1 + 5 * v)) l.length l.length).length := pairsP_mono (fun i k hc => by
      unfold cB at hc ⊢
      simp only [Bool.and_eq_true] at hc ⊢
      exact ⟨hc.1, against_mono (by omega) hc.2⟩) _ _
    have m2 : (pairsP (cB l (100 * u) (1 + 5 * v)) l.length l.length).length ≤ (pairsP (cB l (100 * u + 500) (1 + 5 * v)) l.length l.length).length := pairsP_mono (fun i k hc => by
      unfold cB at hc ⊢
      simp only [Bool.and_eq_true, decide_eq_true_eq] at hc ⊢
      exact ⟨⟨hc.1.1, by omega⟩, hc.2⟩) _ _
    rw [against_loop hg hl (by omega) (by omega)]
    rw [if_neg]
    · rfl
    · simp; omega

end Go.Proofs.Ytpjpfdoaemoddaa
