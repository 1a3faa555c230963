/- The plain law of FnOfStars. No condition. -/
import Derived.Test.YtikaacjlnkfebaaHDrawE
import Derived.Test.YtikaacjlnkfebaaHNamesB
namespace Go.Proofs.Ytikaacjlnkfebaa
open Go Go.RowKit
set_option linter.unusedSimpArgs false
set_option linter.unusedVariables false

theorem A2Estimates_is {c : List UInt8} (hc : c.length ≤ 1099511627776) : ∃ l, spec_A2Estimates c = some l ∧ goodE l = true ∧ l.length ≤ 12 := by
  obtain ⟨l, s', e, hg, hl, _⟩ := l06Draw_is (m := 1000) ((srcN_from hc).le (by omega)) (most := 12) (by omega)
  unfold spec_A2Estimates
  have e' : spec_l06Draw ⟨c, 0, 0⟩ 12 = some (l, s') := e
  exact ⟨l, by rw [From_is, Option.bind_some, e']; rfl, hg, hl⟩

/-! ### The names of the stars -/

def starL (l : List Estimate) : List Bs := l.map (·.Star)

theorem compS_len (l : List Bs) : (compS l).length ≤ l.length := by
  unfold compS Lib.compact Lib.compactUpTo
  rw [List.length_map]
  exact Nat.le_trans (List.length_filter_le _ _) (by simp)

theorem star_names {l : List Estimate} (hl : l.length ≤ 10000) : ∃ ns, impl_namesOf__impl_starOf l = some ns ∧ Strict ns ∧ ns.length ≤ l.length ∧ ∀ x, x ∈ ns ↔ x ∈ starL l := by
  unfold impl_namesOf__impl_starOf
  have hw : whileE (impl_namesOf__impl_starOf_l1 l (l.length : Int)) (([] : List Bs), 0) = some (starL l) := by
    have := while_up (step := impl_namesOf__impl_starOf_l1 l (l.length : Int)) (fun i => starL (l.take i)) l.length (r := starL l) (fun i hi => by
      have e1 : (starL (l.take i)).length ≤ i := by simp [starL]; omega
      simp only [impl_namesOf__impl_starOf_l1, impl_starOf, ixOk_nat, hi, decide_true, ck_true, Int.ofNat_lt, if_true, Int.toNat_natCast, wrap_nat1 (show i < 9223372036854775807 by omega), Option.bind_some]
      rw [appOk_of (by simp; omega), ck_true, List.take_add_one, List.getElem?_eq_getElem hi, getD_lt hi]
      simp only [starL, List.map_append, Option.toList_some, List.map_cons, List.map_nil]) (by rw [List.take_length]; simp [impl_namesOf__impl_starOf_l1])
    simpa [starL] using this
  rw [hw]
  have l1 : (starL l).length = l.length := by simp [starL]
  simp only [Option.bind_some]
  unfold hSort
  rw [if_pos (by omega)]
  simp only [Option.bind_some]
  unfold hCompact
  rw [if_pos (by rw [sortS_len]; omega)]
  simp only [Option.bind_some]
  exact ⟨_, rfl, compS_strict (sortS_le _), Nat.le_trans (compS_len _) (by rw [sortS_len, l1]; exact Nat.le_refl _), fun x => by rw [compS_mem, sortS_mem]⟩

/-! ### The estimates of a star -/

def ofS (l : List Estimate) (n : Bs) : List Estimate := l.filter fun e => e.Star == n

theorem ofS_len (l : List Estimate) (n : Bs) : (ofS l n).length ≤ l.length := List.length_filter_le _ _

theorem goodE_mem {l : List Estimate} (h : goodE l = true) {e : Estimate} (he : e ∈ l) : oneE e = true := by
  unfold goodE at h
  rw [List.all_eq_true] at h
  obtain ⟨i, hi, rfl⟩ := List.getElem_of_mem he
  have := h i (by simpa using hi)
  unfold okE at this
  simp only [Bool.and_eq_true] at this
  rw [getD_lt hi] at this
  exact this.1

theorem chosen_is {l : List Estimate} (hl : l.length ≤ 100) (ht : ∀ e ∈ l, 0 ≤ e.Time ∧ e.Time ≤ 10000000) (n : Bs) : impl_chosen_impl_Estimate__impl_OfStar_c1 l n 0 10000000 = some (ofS l n) := by
  unfold impl_chosen_impl_Estimate__impl_OfStar_c1
  have := while_up (step := impl_chosen_impl_Estimate__impl_OfStar_c1_l1 n 0 10000000 l (l.length : Int)) (fun i => ofS (l.take i) n) l.length (r := ofS l n) (fun i hi => by
    have e1 : (ofS (l.take i) n).length ≤ i := Nat.le_trans (ofS_len _ _) (by simp; omega)
    have hm := ht _ (getD_mem hi default)
    simp only [impl_chosen_impl_Estimate__impl_OfStar_c1_l1, impl_OfStar_c1, impl_in_is, ixOk_nat, hi, decide_true, ck_true, Int.ofNat_lt, if_true, Int.toNat_natCast, wrap_nat1 (show i < 9223372036854775807 by omega), Option.bind_some, Option.isSome_some, Option.getD_some, Bool.or_true, decide_eq_true hm.1, decide_eq_true hm.2, Bool.and_self, Bool.and_true]
    rw [List.take_add_one, List.getElem?_eq_getElem hi, ← getD_lt hi default]
    have e2 : ofS (l.take i ++ (some (l.getD i default)).toList) n = ofS (l.take i) n ++ ofS [l.getD i default] n := by unfold ofS; rw [List.filter_append]; rfl
    rw [e2]
    generalize l.getD i default = x
    generalize ofS (l.take i) n = out at e1 ⊢
    unfold ofS
    by_cases c : (x.Star == n) = true
    · rw [if_pos c, appOk_of (by simp; omega), ck_true, List.filter_cons, if_pos c]; rfl
    · rw [if_neg c, List.filter_cons, if_neg c]; simp) (by rw [List.take_length]; simp [impl_chosen_impl_Estimate__impl_OfStar_c1_l1])
  have e0 : ofS (l.take 0) n = [] := by simp [ofS]
  rw [e0] at this
  rw [this]; rfl

theorem OfStar_is {l : List Estimate} (hg : goodE l = true) (hl : l.length ≤ 12) {n : Bs} (hn : nameB n = true) : impl_OfStar l n 0 10000000 = some (ofS l n, 0) := by
  unfold impl_OfStar
  rw [ValidEstimates_is (by omega), hg, decide_eq_true (show l.length ≤ 100 by omega)]
  simp only [Bool.and_self, Option.bind_some, Bool.not_true, Bool.false_eq_true, if_false, impl_IsName_is, hn, impl_ValidTime, impl_in_is]
  rw [chosen_is (by omega) (fun e he => by
    obtain ⟨a, b, _⟩ := oneE_in (goodE_mem hg he)
    exact ⟨a, b⟩)]
  rfl

theorem LastOf_is {l : List Estimate} (hg : goodE l = true) (hl : l.length ≤ 12) {n : Bs} (hn : nameB n = true) (hp : 0 < (ofS l n).length) : impl_LastOf l n = some ((ofS l n).getD ((ofS l n).length - 1) default, 0) := by
  unfold impl_LastOf
  rw [ValidEstimates_is (by omega), hg, decide_eq_true (show l.length ≤ 100 by omega)]
  simp only [Bool.and_self, Option.bind_some, Bool.not_true, Bool.false_eq_true, if_false, impl_IsName_is, hn]
  have e : l.reverse.find? (fun e => e.Star == n) = some ((ofS l n).getD ((ofS l n).length - 1) default) := by
    rw [← List.head?_filter, List.filter_reverse]
    show (ofS l n).reverse.head? = _
    rw [List.head?_reverse, List.getLast?_eq_getElem?, List.getD_eq_getElem?_getD, List.getElem?_eq_getElem (by omega)]
    rfl
  rw [e]

theorem ofS_star {l : List Estimate} {n : Bs} {e : Estimate} (h : e ∈ ofS l n) : (e.Star == n) = true := by
  unfold ofS at h
  exact (List.mem_filter.1 h).2

theorem each_is {l : List Estimate} {ns : List Bs} {k : Nat} (hk : k < ns.length) (m kk : Int) (hl : l.length ≤ 12) : whileE (laws_FnOfStars_l2 l ns m (k : Int) (ofS l (ns.getD k default))) 0 = some (.inl ()) := by
  rw [while_all (step := laws_FnOfStars_l2 l ns m (k : Int) (ofS l (ns.getD k default))) (fun i => ((ofS l (ns.getD k default)).getD i default).Star == ns.getD k default) (ofS l (ns.getD k default)).length true (yes := .inl ()) (no := .inr false) (by
      simp only [true_iff]
      intro i hi
      exact ofS_star (getD_mem hi default)) (fun i hi => by
      have h2 := ofS_len l (ns.getD k default)
      simp only [laws_FnOfStars_l2, ixOk_nat, hi, hk, decide_true, ck_true, Int.ofNat_lt, if_true, Int.toNat_natCast, wrap_nat1 (show i < 9223372036854775807 by omega)]
      cases (((ofS l (ns.getD k default)).getD i default).Star == ns.getD k default) <;> rfl) (by simp [laws_FnOfStars_l2])]
  rfl

/-! ### The sum -/

def sumO (l : List Estimate) (ns : List Bs) : Nat := (ns.map fun n => (ofS l n).length).sum

theorem sumO_nil (ns : List Bs) : sumO [] ns = 0 := by
  unfold sumO
  induction ns with
  | nil => rfl
  | cons n r ih => simp only [List.map_cons, List.sum_cons, ih]; rfl

theorem ofS_cons (e : Estimate) (l : List Estimate) (n : Bs) : ofS (e :: l) n = if (e.Star == n) = true then e :: ofS l n else ofS l n := by unfold ofS; rw [List.filter_cons]

theorem sumO_none {e : Estimate} {l : List Estimate} : ∀ {ns : List Bs}, e.Star ∉ ns → sumO (e :: l) ns = sumO l ns
  | [], _ => rfl
  | n :: r, h => by
    have h1 : (e.Star == n) = false := by
      have : e.Star ≠ n := fun c => h (by simp [c])
      simpa using this
    have ih := sumO_none (e := e) (l := l) (ns := r) (fun c => h (by simp [c]))
    unfold sumO at ih ⊢
    simp only [List.map_cons, List.sum_cons, ih, ofS_cons e l n, h1, Bool.false_eq_true, if_false]

theorem sumO_cons {e : Estimate} {l : List Estimate} : ∀ {ns : List Bs}, Strict ns → e.Star ∈ ns → sumO (e :: l) ns = sumO l ns + 1
  | [], _, h => absurd h (by simp)
  | n :: r, hs, h => by
    obtain ⟨p, q⟩ := List.pairwise_cons.1 hs
    by_cases c : e.Star = n
    · have h1 : (e.Star == n) = true := by simpa using c
      have h2 : e.Star ∉ r := fun d => lt_irr _ (by have := p _ d; rwa [c] at this)
      have ih := sumO_none (l := l) h2
      unfold sumO at ih ⊢
      simp only [List.map_cons, List.sum_cons, ih, ofS_cons e l n, h1, if_true, List.length_cons]
      omega
    · have h1 : (e.Star == n) = false := by simpa using c
      have ih := sumO_cons (l := l) q ((List.mem_cons.1 h).resolve_left c)
      unfold sumO at ih ⊢
      simp only [List.map_cons, List.sum_cons, ih, ofS_cons e l n, h1, Bool.false_eq_true, if_false]
      omega

theorem sumO_all {ns : List Bs} (hs : Strict ns) : ∀ {l : List Estimate}, (∀ e ∈ l, e.Star ∈ ns) → sumO l ns = l.length
  | [], _ => sumO_nil ns
  | e :: l, h => by
    rw [sumO_cons hs (h e (by simp)), sumO_all hs fun x hx => h x (by simp [hx])]
    rfl

theorem sumO_take (l : List Estimate) (ns : List Bs) (k : Nat) (hk : k < ns.length) : sumO l (ns.take (k + 1)) = sumO l (ns.take k) + (ofS l (ns.getD k default)).length := by
  unfold sumO
  rw [List.take_add_one, List.getElem?_eq_getElem hk, ← getD_lt hk default, List.map_append, List.sum_append]
  simp

theorem sumO_le (l : List Estimate) (ns : List Bs) (k : Nat) : sumO l (ns.take k) ≤ sumO l ns := by
  conv => rhs; rw [← List.take_append_drop k ns]
  unfold sumO
  rw [List.map_append, List.sum_append]
  omega

theorem self_eq (x : Estimate) : ((x.Time == x.Time) && ((x.Star == x.Star) && ((x.Observer == x.Observer) && ((x.Mag == x.Mag) && (x.Fainter == x.Fainter))))) = true := by simp

theorem law_OfStars {code : List UInt8} (w : code.length ≤ maxLen) : laws_FnOfStars code = some true := by
  unfold laws_FnOfStars laws_a2Long
  rw [Option.bind_some]
  by_cases hb : ((decide (3000 < (code.length : Int))) || (decide (3000 < ((([] : List UInt8).length : Nat) : Int)))) = true
  · rw [if_pos hb]
  rw [if_neg hb]
  have hc : code.length ≤ 1099511627776 := by simp at hb; omega
  obtain ⟨l, e1, hg, hl⟩ := A2Estimates_is hc
  obtain ⟨ns, e2, hs, hnl, hm⟩ := star_names (l := l) (by omega)
  have e3 : impl_StarsIn l = some (ns, 0) := by
    unfold impl_StarsIn
    rw [ValidEstimates_is (by omega), hg, decide_eq_true (show l.length ≤ 100 by omega)]
    simp only [Bool.and_self, Option.bind_some, Bool.not_true, Bool.false_eq_true, if_false, e2]
  rw [e1, Option.bind_some, e3, Option.bind_some, if_neg (by simp)]
  have hall : sumO l ns = l.length := sumO_all hs fun e he => (hm _).2 (List.mem_map.2 ⟨e, he, rfl⟩)
  have hs' := List.pairwise_iff_getElem.1 hs
  have hw := whileE_run (step := laws_FnOfStars_l1 l ns) (fun k : Nat => (((sumO l (ns.take k) : Nat) : Int), (k : Int))) ns.length (r := .inl ((sumO l ns : Nat) : Int)) (fun k hk => by
    obtain ⟨e0, he0, hen⟩ := List.mem_map.1 ((hm _).1 (getD_mem hk default))
    have hname : nameB (ns.getD k default) = true := by rw [← hen]; have q := goodE_mem hg he0; unfold oneE at q; simp only [Bool.and_eq_true] at q; exact q.1.1.2
    have hpos : 0 < (ofS l (ns.getD k default)).length := List.length_pos_of_mem (List.mem_filter.2 ⟨he0, by rw [← hen]; simp⟩)
    have hle := ofS_len l (ns.getD k default)
    have hsum := sumO_take l ns k hk
    have hsl := sumO_le l ns (k + 1)
    have hlt : decide (0 < (k : Int)) = true → Op.bytesLess (ns.getD (k - 1) default) (ns.getD k default) = true := fun h => by
      have h' : 0 < k := by simpa using h
      rw [bl_lt, getD_lt hk, getD_lt (show k - 1 < ns.length by omega)]
      exact decide_eq_true (hs' (k - 1) k (by omega) hk (by omega))
    have ew : IntKind.i64.wrap (((ofS l (ns.getD k default)).length : Int) - 1) = (((ofS l (ns.getD k default)).length - 1 : Nat) : Int) := by have : sumO l ns = l.length := hall; rw [wrap_i64 (by omega) (by omega)]; omega
    have ew2 : 0 < k → IntKind.i64.wrap ((k : Int) - 1) = ((k - 1 : Nat) : Int) := fun h => by rw [wrap_i64 (by omega) (by omega)]; omega
    have hz : (((ofS l (ns.getD k default)).length : Int) == 0) = false := beq_eq_false_iff_ne.2 (by omega)
    have ho : ixOk (((ofS l (ns.getD k default)).length - 1 : Nat) : Int) (ofS l (ns.getD k default)).length = true := ixOk_of (by omega) (by omega)
    have hin := each_is hk ((sumO l (ns.take k) : Nat) : Int) 0 hl
    have hsw : IntKind.i64.wrap (((sumO l (ns.take k) : Nat) : Int) + ((ofS l (ns.getD k default)).length : Int)) = ((sumO l (ns.take (k + 1)) : Nat) : Int) := by
      rw [hsum, wrap_i64 (by omega) (by omega)]; omega
    unfold laws_FnOfStars_l1
    simp only [Int.ofNat_lt, hk, decide_true, if_true, ixOk_nat, ck_true, Int.toNat_natCast]
    rw [OfStar_is hg hl hname, LastOf_is hg hl hname hpos]
    simp only [Option.bind_some, ew, hz, ho, Int.toNat_natCast, self_eq, beq_self_eq_true, Bool.not_true, Bool.or_self, Bool.not_false, Bool.true_and, Bool.or_true, Bool.false_or, ck_true, hin, hsw, wrap_nat1 (show k < 9223372036854775807 by omega)]
    by_cases h0 : 0 < k
    · have e1 : decide ((0 : Int) < (k : Int)) = true := by simpa using h0
      rw [ew2 h0, Int.toNat_natCast, hlt e1, e1, ixOk_nat]
      have : decide (k - 1 < ns.length) = true := by simp; omega
      simp [this, ck_true]
    · have e1 : decide ((0 : Int) < (k : Int)) = false := by simpa using h0
      rw [e1]
      simp [ck_true]) (by simp [laws_FnOfStars_l1, List.take_length])
  have e0 : sumO l (ns.take 0) = 0 := by simp [sumO]
  simp only [e0] at hw
  have hw' : whileE (laws_FnOfStars_l1 l ns) (0, 0) = some (.inl ((sumO l ns : Nat) : Int)) := hw
  rw [hw', Option.bind_some, hall]
  simp

end Go.Proofs.Ytikaacjlnkfebaa
