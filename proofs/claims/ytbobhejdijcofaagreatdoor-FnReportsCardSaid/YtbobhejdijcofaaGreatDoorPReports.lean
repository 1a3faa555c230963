/- The plain law of FnReports. No condition. -/
import Derived.Test.YtbobhejdijcofaaGreatDoorHPD
import Derived.Test.YtbobhejdijcofaaGreatDoorHPC
import Derived.Test.YtbobhejdijcofaaGreatDoorHPB
namespace Go.Proofs.YtbobhejdijcofaaGreatDoor
open Go Go.RowKit
set_option linter.unusedSimpArgs false
set_option linter.unusedVariables false

theorem texts_self {a : List (List UInt8)} (h : a.length ≤ 1099511627776) : laws_f6texts a a = some true := by
  unfold laws_f6texts
  have e : (!((a.length : Int) == (a.length : Int))) = false := by simp
  rw [e]
  simp only [Bool.false_eq_true, if_false]
  rw [while_all (step := laws_f6texts_l1 a a) (fun i => true) a.length true (yes := .inl ()) (no := .inr false) (by simp) (fun i hi => by
    simp only [laws_f6texts_l1, Int.ofNat_lt, hi, decide_true, if_true, ixOk_nat, ck_true, Int.toNat_natCast, wrap_nat1 (show i < 9223372036854775807 by omega), beq_self_eq_true, Bool.not_true, Bool.false_eq_true, if_false]) (by simp [laws_f6texts_l1])]
  rfl

/-! ### Reports -/

theorem good_mags {l : List Estimate} (h : goodE l = true) : ∀ e ∈ l, InM e.Mag := fun e he => by
  obtain ⟨i, hi, rfl⟩ := List.getElem_of_mem he
  have h1 := oneE_in (goodE_nb h hi).1
  rw [getD_lt hi] at h1
  exact h1.2.2

theorem row_len (l : List Estimate) (s : List UInt8) : (rowT l s).length = 4 ∧ (rowT l s).getD 0 default = s := by
  unfold rowT
  split <;> exact ⟨rfl, rfl⟩

theorem Report_same {l : List Estimate} (hl : l.length ≤ 1000) : (∃ ns, impl_StarsIn l = some (ns, 0) ∧ impl_ReportRows l = some (ns.map (rowT l), 0) ∧ spec_ReportRows l = some (ns.map (rowT l), 0) ∧ ns.length ≤ 1000) ∨ (impl_ReportRows l = some ([], 1) ∧ spec_ReportRows l = some ([], 1)) := by
  obtain ⟨ns, n1, n2, _, n4, _⟩ := star_names (l := l) (by omega)
  have hS : impl_StarsIn l = some (if (goodE l && decide (l.length ≤ 100)) = true then (ns, 0) else ([], 1)) := by
    unfold impl_StarsIn
    rw [ValidEstimates_is (by omega), n2]
    cases (goodE l && decide (l.length ≤ 100)) <;> rfl
  have hT : spec_StarsIn l = some (if (goodE l && decide (l.length ≤ 100)) = true then (ns, 0) else ([], 1)) := by
    unfold spec_StarsIn
    rw [l06Ok_is (by omega), n1]
    cases (goodE l && decide (l.length ≤ 100)) <;> rfl
  unfold impl_ReportRows spec_ReportRows
  rw [hS, hT, l06Ok_is (by omega)]
  cases hv : (goodE l && decide (l.length ≤ 100))
  · exact .inr ⟨rfl, rfl⟩
  · left
    simp only [Bool.and_eq_true, decide_eq_true_eq] at hv
    have hm := good_mags hv.1
    have ht : ∀ i, i < ns.length → (ns.take (i + 1)).map (rowT l) = (ns.take i).map (rowT l) ++ [rowT l (ns.getD i default)] := fun i hi => by
      rw [List.take_add_one, List.getElem?_eq_getElem hi, getD_lt hi, List.map_append]; rfl
    have e1 := while_up (step := impl_ReportRows_l1 l ns (ns.length : Int)) (fun i => (ns.take i).map (rowT l)) ns.length (r := ns.map (rowT l)) (fun i hi => by
      have hle : ((ns.take i).map (rowT l)).length ≤ 1000 := by simp; omega
      simp only [impl_ReportRows_l1, ixOk_nat, hi, decide_true, ck_true, Int.ofNat_lt, if_true, Int.toNat_natCast, wrap_nat1 (show i < 9223372036854775807 by omega), starRow_impl hv.2 hm, Option.bind_some]
      rw [appOk_of (by simp only [List.length_cons, List.length_nil]; omega), ck_true, ht i hi]) (by rw [List.take_length]; simp [impl_ReportRows_l1])
    have e2 := while_up (step := spec_ReportRows_l1 l ns) (fun i => (ns.take i).map (rowT l)) ns.length (r := ns.map (rowT l)) (fun i hi => by
      have hle : ((ns.take i).map (rowT l)).length ≤ 1000 := by simp; omega
      simp only [spec_ReportRows_l1, ixOk_nat, hi, decide_true, ck_true, Int.ofNat_lt, if_true, Int.toNat_natCast, wrap_nat1 (show i < 9223372036854775807 by omega), starRow_spec hv.2 hm, Option.bind_some]
      rw [appOk_of (by simp only [List.length_cons, List.length_nil]; omega), ck_true, ht i hi]) (by rw [List.take_length]; simp [spec_ReportRows_l1])
    have e1' : whileE (impl_ReportRows_l1 l ns (ns.length : Int)) (([] : List (List (List UInt8))), 0) = _ := e1
    have e2' : whileE (spec_ReportRows_l1 l ns) (([] : List (List (List UInt8))), 0) = _ := e2
    refine ⟨ns, rfl, ?_, ?_, by omega⟩
    · simp only [if_true, Option.bind_some, beq_self_eq_true, Bool.not_true, Bool.false_eq_true, if_false]
      rw [e1']; rfl
    · simp only [if_true, Option.bind_some, beq_self_eq_true, Bool.not_true, Bool.false_eq_true, if_false]
      rw [e2']; rfl

theorem StarRow_same {l : List Estimate} (hl : l.length ≤ 1000) (s : List UInt8) : ∃ o c, impl_StarRow l s = some (o, c) ∧ spec_StarRow l s = some (o, c) ∧ o.length ≤ 4 := by
  unfold impl_StarRow spec_StarRow
  rw [ValidEstimates_is (by omega), l06Ok_is (by omega)]
  simp only [Option.bind_some]
  cases hv : (goodE l && decide (l.length ≤ 100))
  · exact ⟨[], 1, rfl, rfl, by simp⟩
  · simp only [Bool.not_true, Bool.false_eq_true, if_false]
    rw [impl_IsName_is, spec_IsName_is]
    simp only [Option.bind_some]
    cases nameB s
    · exact ⟨[], 2, rfl, rfl, by simp⟩
    · simp only [Bool.and_eq_true, decide_eq_true_eq] at hv
      simp only [Bool.not_true, Bool.false_eq_true, if_false]
      rw [starRow_impl hv.2 (good_mags hv.1), starRow_spec hv.2 (good_mags hv.1)]
      exact ⟨_, 0, rfl, rfl, by rw [(row_len l s).1]; omega⟩

/-! ### The stars of a plot -/

def fB (r : List UInt8) : Bool := decide (0 < r.length) && (r.getD 0 0 == 42)

theorem byte_eq (c : UInt8) : (((c.toNat : Int)) == 42) = (c == 42) := by
  rw [Bool.eq_iff_iff]
  simp only [beq_iff_eq, ← UInt8.toNat_inj]
  constructor
  · intro h; show c.toNat = 42; omega
  · intro h; have h : c.toNat = 42 := h; omega

theorem cnt_take {r : List UInt8} {j : Nat} (h : j < r.length) : cnt (r.take (j + 1)) = cnt (r.take j) + (if (r.getD j 0 == 42) = true then 1 else 0) := by
  unfold cnt
  rw [List.take_add_one, List.getElem?_eq_getElem h, List.countP_append, getD_lt h]
  cases hc : (r[j] == 42) <;> simp [hc]

theorem cnt_le (r : List UInt8) : cnt r ≤ r.length := List.countP_le_length

section
variable (list : List Estimate) (bad : Int) (model : List (List (List UInt8))) (curve : List Point) (n : Int)

theorem row_loop (o : List (List UInt8)) {i : Nat} (hi : i < o.length) (hr : (o.getD i default).length ≤ 100) {s0 : Nat} (h0 : s0 ≤ 1000000) (f0 : Bool) :
    whileE (laws_FnReports_l3 list bad model curve n o (i : Int)) ((s0 : Int), f0, 0) = some (((s0 + cnt (o.getD i default) : Nat) : Int), f0 || fB (o.getD i default)) := by
  generalize hrr : o.getD i default = r at hr
  obtain ⟨y, hy, hq⟩ := while_post (step := laws_FnReports_l3 list bad model curve n o (i : Int)) (fun s => ∃ j : Nat, s.2.2 = (j : Int) ∧ j ≤ r.length ∧ s.1 = ((s0 + cnt (r.take j) : Nat) : Int) ∧ s.2.1 = (f0 || (decide (0 < j) && (r.getD 0 0 == 42))))
    (fun y => y = (((s0 + cnt r : Nat) : Int), f0 || fB r)) (fun s => r.length - s.2.2.toNat) (by
    rintro ⟨c, f, ii⟩ ⟨j, h1, hj, h2, h3⟩
    simp only at h1 h2 h3
    subst h1 h2 h3
    by_cases h : j < r.length
    · left
      have hct := cnt_take h
      have hcl : cnt (r.take j) ≤ 100 := by have := cnt_le (r.take j); simp at this; omega
      simp only [laws_FnReports_l3, ixOk_nat, hi, h, hrr, decide_true, ck_true, Int.ofNat_lt, if_true, Int.toNat_natCast, wrap_nat1 (show j < 9223372036854775807 by omega), byte_eq, wrap_nat1 (show s0 + cnt (r.take j) < 9223372036854775807 by omega)]
      cases hc : (r.getD j 0 == 42)
      · rw [hc, if_neg Bool.false_ne_true] at hct
        rw [if_neg Bool.false_ne_true]
        refine ⟨_, rfl, ⟨j + 1, rfl, by omega, by rw [hct]; rfl, ?_⟩, by simp only [Int.toNat_natCast]; omega⟩
        show (f0 || (decide (0 < j) && (r.getD 0 0 == 42))) = (f0 || (decide (0 < j + 1) && (r.getD 0 0 == 42)))
        rcases Nat.eq_zero_or_pos j with e | e
        · subst e; rw [hc]; simp
        · rw [decide_eq_true e, decide_eq_true (show 0 < j + 1 by omega)]
      · rw [hc, if_pos rfl] at hct
        rw [if_pos rfl]
        refine ⟨_, rfl, ⟨j + 1, rfl, by omega, by rw [hct]; rfl, ?_⟩, by simp only [Int.toNat_natCast]; omega⟩
        show ((f0 || (decide (0 < j) && (r.getD 0 0 == 42))) || ((j : Int) == 0)) = (f0 || (decide (0 < j + 1) && (r.getD 0 0 == 42)))
        rcases Nat.eq_zero_or_pos j with e | e
        · subst e; rw [hc]; simp
        · have e0 : ((j : Int) == 0) = false := by rw [beq_eq_false_iff_ne]; omega
          rw [decide_eq_true e, decide_eq_true (show 0 < j + 1 by omega), e0, Bool.or_false]
    · right
      obtain rfl : j = r.length := by omega
      rw [List.take_length]
      refine ⟨(((s0 + cnt r : Nat) : Int), f0 || fB r), ?_, rfl⟩
      simp only [laws_FnReports_l3, ixOk_nat, hi, hrr, decide_true, ck_true, Int.toNat_natCast, Int.lt_irrefl, decide_false, Bool.false_eq_true, if_false]
      rfl) (s := ((s0 : Int), f0, 0)) ⟨0, rfl, Nat.zero_le _, rfl, by simp⟩
  rw [hy, hq]

theorem rows_loop {o : List (List UInt8)} (ho : o.length ≤ 1000) (hr : ∀ i, i < o.length → (o.getD i default).length ≤ 100) :
    whileE (laws_FnReports_l2 list bad model curve n o) (0, false, 0) = some ((starsG o : Int), o.any fB) := by
  have hst : ∀ i, i < o.length → starsG (o.take (i + 1)) = starsG (o.take i) + cnt (o.getD i default) ∧ (o.take (i + 1)).any fB = ((o.take i).any fB || fB (o.getD i default)) := fun i hi => by
    unfold starsG
    rw [List.take_add_one, List.getElem?_eq_getElem hi, getD_lt hi, List.map_append, List.sum_append, List.any_append]
    simp
  have hsl : ∀ i, i ≤ o.length → starsG (o.take i) ≤ 100 * i := by
    intro i
    induction i with
    | zero => intro _; simp [starsG]
    | succ i ih =>
      intro hi
      rw [(hst i (by omega)).1]
      have := ih (by omega)
      have := cnt_le (o.getD i default)
      have := hr i (by omega)
      omega
  obtain ⟨y, hy, hq⟩ := while_post (step := laws_FnReports_l2 list bad model curve n o) (fun s => ∃ i : Nat, s.2.2 = (i : Int) ∧ i ≤ o.length ∧ s.1 = (starsG (o.take i) : Int) ∧ s.2.1 = (o.take i).any fB)
    (fun y => y = ((starsG o : Int), o.any fB)) (fun s => o.length - s.2.2.toNat) (by
    rintro ⟨c, f, ii⟩ ⟨i, h1, hi, h2, h3⟩
    simp only at h1 h2 h3
    subst h1 h2 h3
    by_cases h : i < o.length
    · left
      have hb := hsl i (by omega)
      have := row_loop list bad model curve n o h (hr i h) (s0 := starsG (o.take i)) (by omega) ((o.take i).any fB)
      simp only [laws_FnReports_l2, h, decide_true, Int.ofNat_lt, if_true, wrap_nat1 (show i < 9223372036854775807 by omega), this, Option.bind_some]
      exact ⟨_, rfl, ⟨i + 1, rfl, by omega, by rw [(hst i h).1], by rw [(hst i h).2]⟩, by simp only [Int.toNat_natCast]; omega⟩
    · right
      obtain rfl : i = o.length := by omega
      rw [List.take_length]
      exact ⟨_, by simp [laws_FnReports_l2], rfl⟩) (s := (0, false, 0)) ⟨0, rfl, Nat.zero_le _, rfl, rfl⟩
  rw [hy, hq]
end

theorem first_any {o : List (List UInt8)} (h : firstG o) : o.any fB = true := by
  obtain ⟨i, h1, h2, h3⟩ := h
  rw [List.any_eq_true]
  have e : o.getD i [] = o[i] := getD_lt h1 []
  rw [e] at h2 h3
  refine ⟨o[i], List.getElem_mem h1, ?_⟩
  unfold fB
  rw [decide_eq_true h2, h3]; rfl

theorem le_stars : ∀ {o : List (List UInt8)} {r : List UInt8}, r ∈ o → cnt r ≤ starsG o
  | [], r, h => by simp at h
  | a :: o, r, h => by
    show cnt r ≤ cnt a + starsG o
    rcases List.mem_cons.1 h with rfl | h
    · omega
    · have := le_stars h; omega

theorem stars_none {o : List (List UInt8)} (h : starsG o = 0) : o.any fB = false := by
  rw [Bool.eq_false_iff]
  intro hc
  obtain ⟨r, hr, hf⟩ := List.any_eq_true.1 hc
  unfold fB at hf
  simp only [Bool.and_eq_true, decide_eq_true_eq] at hf
  have h1 := le_stars hr
  have h2 : 0 < cnt r := by
    unfold cnt
    rw [List.countP_pos_iff]
    exact ⟨r.getD 0 0, by rw [getD_lt hf.1]; exact List.getElem_mem hf.1, hf.2⟩
  omega

theorem names_loop (ns : List (List UInt8)) (l : List Estimate) (hn : ns.length ≤ 1000) : whileE (laws_FnReports_l4 (ns.map (rowT l)) ns) 0 = some (.inl ()) := by
  rw [while_all (step := laws_FnReports_l4 (ns.map (rowT l)) ns) (fun i => true) ns.length true (yes := .inl ()) (no := .inr false) (by simp) (fun i hi => by
    have hm : i < (ns.map (rowT l)).length := by rw [List.length_map]; exact hi
    have hg : (ns.map (rowT l)).getD i default = rowT l (ns.getD i default) := by rw [getD_lt hm, List.getElem_map, getD_lt hi]
    obtain ⟨r1, r2⟩ := row_len l (ns.getD i default)
    have hm' : decide ((i : Int) < ((ns.map (rowT l)).length : Int)) = true := decide_eq_true (by omega)
    have hx : ixOk 0 (rowT l (ns.getD i default)).length = true := by rw [r1]; rfl
    simp only [laws_FnReports_l4, hm', if_true, ixOk_nat, hm, hi, decide_true, ck_true, Int.toNat_natCast, wrap_nat1 (show i < 9223372036854775807 by omega), hg, hx, r2, Bool.or_true]
    rw [r1]
    simp) (by simp [laws_FnReports_l4])]
  rfl

theorem l5_is : laws_FnReports_l5 = laws_FnReports_l4 := by
  funext a b i
  rfl

theorem law_Reports {c : List UInt8} : laws_FnReports c = some true := by
  unfold laws_FnReports laws_f6big
  simp only [Option.bind_some]
  by_cases hc : 4096 < (c.length : Int)
  · simp [hc]
  have hc' : c.length ≤ 1099511627776 := by omega
  simp only [hc, decide_false, Bool.false_eq_true, if_false]
  obtain ⟨l, d1, hl⟩ := DrawReportRows_is hc'
  obtain ⟨a, s, d2, ha⟩ := DrawStarRow_is hc'
  obtain ⟨cu, cols, n, d3, hcu⟩ := DrawPlotLines_is hc'
  obtain ⟨r, k, r1, r2, r3⟩ := StarRow_same ha s
  obtain ⟨o, j, o1, o2, o3, o4⟩ := Plot_same (c := cu) (by omega) cols n
  obtain ⟨R, q, R1, R2, R3, R4⟩ : ∃ R q, impl_ReportRows l = some (R, q) ∧ spec_ReportRows l = some (R, q) ∧ (∀ i, i < R.length → (R.getD i default).length = 4) ∧ R.length ≤ 1000 := by
    rcases Report_same hl with ⟨ns, _, h2, h3, h4⟩ | ⟨h2, h3⟩
    · refine ⟨_, _, h2, h3, fun i hi => ?_, by rw [List.length_map]; exact h4⟩
      have hi' : i < ns.length := by rw [List.length_map] at hi; exact hi
      rw [getD_lt hi, List.getElem_map]
      exact (row_len l _).1
    · exact ⟨_, _, h2, h3, fun i hi => absurd hi (by simp), by simp⟩
  have hend : (if (!(q == 0)) = true then some true else (impl_StarsIn l).bind fun y => if ((!(y.2 == 0)) || (!((y.1.length : Int) == (R.length : Int)))) = true then some false else (whileE (laws_FnReports_l4 R y.1) 0).bind fun z => match z with | .inl _ => some true | .inr b => some b) = some true := by
    rcases Report_same hl with ⟨ns, h1, h2, h3, h4⟩ | ⟨h2, h3⟩
    · rw [R1] at h2
      injection h2 with h2
      injection h2 with h2 h5
      subst h2 h5
      rw [h1]
      simp only [Option.bind_some, beq_self_eq_true, Bool.not_true, Bool.false_eq_true, if_false, List.length_map, Bool.or_self]
      rw [names_loop ns l h4]; rfl
    · rw [R1] at h2
      injection h2 with h2
      injection h2 with h2 h5
      subst h2 h5
      rfl
  rw [d1, Option.bind_some, R1, R2, d2]
  simp only [Option.bind_some]
  rw [r1, r2, d3]
  simp only [Option.bind_some]
  rw [o1, o2]
  simp only [Option.bind_some, beq_self_eq_true, texts_self (show r.length ≤ 1099511627776 by omega), texts_self (show o.length ≤ 1099511627776 by omega), Option.isSome_some, Option.getD_some, Bool.not_true, Bool.not_false, Bool.or_self, Bool.or_true, ck_true, Bool.false_eq_true, if_false]
  rw [while_all (step := laws_FnReports_l1 l R q R cu n j o) (fun i => true) R.length true (yes := .inl ()) (no := .inr false) (by simp) (fun i hi => by
    have h4 := R3 i hi
    simp only [laws_FnReports_l1, Int.ofNat_lt, hi, decide_true, if_true, ixOk_nat, ck_true, Int.toNat_natCast, wrap_nat1 (show i < 9223372036854775807 by omega), texts_self (show (R.getD i default).length ≤ 1099511627776 by omega), Option.bind_some, Bool.not_true, Bool.false_eq_true, if_false]) (by simp [laws_FnReports_l1])]
  simp only [Option.bind_some, if_true, l5_is]
  by_cases hj : j = 0
  · subst hj
    obtain ⟨p1, ⟨m, m80, p2⟩, p3, p4, p5⟩ := o4 rfl
    have hrow : ∀ i, i < o.length → (o.getD i default).length ≤ 100 := fun i hi => by
      have := p2.2 i (by rw [← p2.1]; exact hi)
      have e : o.getD i default = o.getD i [] := rfl
      rw [e]; omega
    rw [if_pos (show ((0 : Int) == 0) = true from rfl), rows_loop l q R cu n o3 hrow]
    simp only [Option.bind_some]
    have e1 : (!((o.length : Int) == n)) = false := by
      have := p2.1
      have : (o.length : Int) = n := by omega
      simp [this]
    have e2 : decide ((cu.length : Int) < (starsG o : Int)) = false := decide_eq_false (by omega)
    have e3 : (!((decide ((0 : Int) < (cu.length : Int))) == (o.any fB))) = false := by
      by_cases h0 : 0 < cu.length
      · rw [first_any (p4 h0), decide_eq_true (show (0 : Int) < (cu.length : Int) by omega)]; rfl
      · have : cu = [] := List.length_eq_zero_iff.1 (by omega)
        subst this
        rw [stars_none (p5 rfl)]; rfl
    rw [e1, e2, e3]
    simp only [Bool.or_self, Bool.false_eq_true, if_false]
    exact hend
  · have : (j == 0) = false := by rw [beq_eq_false_iff_ne]; exact hj
    rw [this, if_neg Bool.false_ne_true]
    exact hend

end Go.Proofs.YtbobhejdijcofaaGreatDoor
