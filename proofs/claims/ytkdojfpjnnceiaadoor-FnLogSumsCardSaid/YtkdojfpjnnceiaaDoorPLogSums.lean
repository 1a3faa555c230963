/- The plain law of LogSums. No condition. -/
import Derived.Test.YtkdojfpjnnceiaaDoorHLogD
import Derived.Test.YtkdojfpjnnceiaaDoorHLogV
import Derived.Test.YtkdojfpjnnceiaaDoorHNamesIn
namespace Go.Proofs.YtkdojfpjnnceiaaDoor
open Go Go.RowKit
set_option linter.unusedSimpArgs false
set_option linter.unusedVariables false

/-! ### Sums over names -/

def sumV (v : Entry → Int) (p : Entry → Bool) (es : List Entry) : Nat → Int
  | 0 => 0
  | n + 1 => sumV v p es n + if p (es.getD n default) = true then v (es.getD n default) else 0

def sumL {α : Type} (g : α → Int) : List α → Int
  | [] => 0
  | x :: l => g x + sumL g l

theorem sumL_app {α : Type} (g : α → Int) : ∀ a b : List α, sumL g (a ++ b) = sumL g a + sumL g b
  | [], b => by simp [sumL]
  | x :: a, b => by simp only [List.cons_append, sumL, sumL_app g a b]; omega

theorem sumL_one {g : List UInt8 → Int} (w : List UInt8) (x : Int) : ∀ l : List (List UInt8), l.Nodup → sumL (fun nm => g nm + if (w == nm) = true then x else 0) l = sumL g l + if w ∈ l then x else 0
  | [], _ => by simp [sumL]
  | a :: l, h => by
    rw [List.nodup_cons] at h
    simp only [sumL, sumL_one w x l h.2, List.mem_cons]
    by_cases c : w = a
    · subst c
      simp only [beq_self_eq_true, if_true, true_or, h.1, if_false]
      omega
    · have e : (w == a) = false := by simpa using c
      simp only [e, Bool.false_eq_true, if_false, c, false_or]
      omega

theorem sumL_congr {α : Type} {g g' : α → Int} : ∀ l : List α, (∀ x, x ∈ l → g x = g' x) → sumL g l = sumL g' l
  | [], _ => rfl
  | x :: l, h => by simp only [sumL]; rw [h x (by simp), sumL_congr l fun y hy => h y (by simp [hy])]

theorem namesP_has (es : List Entry) : ∀ (n i : Nat), i < n → (es.getD i default).What ∈ namesP es n
  | 0, i, h => absurd h (by omega)
  | n + 1, i, h => by
    unfold namesP
    rcases Nat.lt_or_ge i n with h' | h'
    · have ih := namesP_has es n i h'
      split
      · exact ih
      · exact List.mem_append_left _ ih
    · obtain rfl : i = n := by omega
      split
      · rename_i hc
        obtain ⟨y, hy, he⟩ := List.any_eq_true.1 hc
        rwa [beq_iff_eq.1 he] at hy
      · simp

theorem namesP_nodup (es : List Entry) : ∀ n : Nat, (namesP es n).Nodup
  | 0 => List.nodup_nil
  | n + 1 => by
    have ih := namesP_nodup es n
    unfold namesP
    split
    · exact ih
    · rename_i hc
      rw [List.nodup_append]
      refine ⟨ih, by simp, fun a ha b hb => ?_⟩
      rw [List.mem_singleton] at hb
      subst hb
      rintro rfl
      exact hc (List.any_eq_true.2 ⟨_, ha, beq_self_eq_true _⟩)

theorem namesP_of (es : List Entry) : ∀ (n : Nat) (x : List UInt8), x ∈ namesP es n → ∃ i, i < n ∧ (es.getD i default).What = x
  | 0, x, h => by simp [namesP] at h
  | n + 1, x, h => by
    unfold namesP at h
    split at h
    · obtain ⟨i, h1, h2⟩ := namesP_of es n x h
      exact ⟨i, by omega, h2⟩
    · rcases List.mem_append.1 h with h | h
      · obtain ⟨i, h1, h2⟩ := namesP_of es n x h
        exact ⟨i, by omega, h2⟩
      · exact ⟨n, by omega, (List.mem_singleton.1 h).symm⟩

theorem sumV_none (v : Entry → Int) (es : List Entry) (x : List UInt8) : ∀ n : Nat, x ∉ namesP es n → sumV v (fun e => e.What == x) es n = 0
  | 0, _ => rfl
  | n + 1, h => by
    have h1 : x ∉ namesP es n := fun c => by
      obtain ⟨i, hi, he⟩ := namesP_of es n x c
      exact h (he ▸ namesP_has es (n + 1) i (by omega))
    have h2 : ((es.getD n default).What == x) = false := by
      rw [beq_eq_false_iff_ne]
      intro e
      exact h (e ▸ namesP_has es (n + 1) n (by omega))
    simp only [sumV, sumV_none v es x n h1, h2, Bool.false_eq_true, if_false]
    rfl

/-- The sums over the names are the sum over all. -/
theorem sum_names (v : Entry → Int) (es : List Entry) : ∀ n : Nat, sumL (fun nm => sumV v (fun e => e.What == nm) es n) (namesP es n) = sumV v (fun _ => true) es n
  | 0 => rfl
  | n + 1 => by
    have ih := sum_names v es n
    have hnd := namesP_nodup es n
    have step : sumL (fun nm => sumV v (fun e => e.What == nm) es (n + 1)) (namesP es n) = sumV v (fun _ => true) es n + if (es.getD n default).What ∈ namesP es n then v (es.getD n default) else 0 := by
      rw [← ih, ← sumL_one (g := fun nm => sumV v (fun e => e.What == nm) es n) _ _ _ hnd]
      rfl
    by_cases hw : (es.getD n default).What ∈ namesP es n
    · have e : namesP es (n + 1) = namesP es n := by
        have hc : ((namesP es n).any fun y => y == (es.getD n default).What) = true := List.any_eq_true.2 ⟨_, hw, beq_self_eq_true _⟩
        rw [namesP, if_pos hc]
      rw [e, step, if_pos hw]
      simp only [sumV, if_true]
    · have e : namesP es (n + 1) = namesP es n ++ [(es.getD n default).What] := by
        rw [namesP, if_neg]
        intro c
        obtain ⟨y, hy, he⟩ := List.any_eq_true.1 c
        rw [beq_iff_eq.1 he] at hy
        exact hw hy
      rw [e, sumL_app, step, if_neg hw]
      simp only [sumL, sumV, sumV_none v es _ n hw, beq_self_eq_true, if_true]
      omega

/-! ### The sums of the program -/

theorem sumV_bound {es : List Entry} (ho : ∀ e, e ∈ es → oneN e = true) (p : Entry → Bool) : ∀ n : Nat, n ≤ es.length → -(1000000 * (n : Int)) ≤ sumV (·.Value) p es n ∧ sumV (·.Value) p es n ≤ 1000000 * n
  | 0, _ => ⟨by show -(1000000 * (0 : Int)) ≤ 0; omega, by show (0 : Int) ≤ 1000000 * 0; omega⟩
  | n + 1, h => by
    have ih := sumV_bound ho p n (by omega)
    have hm : es.getD n default ∈ es := by rw [getD_lt (by omega)]; exact List.getElem_mem _
    have hin := oneN_in (ho _ hm)
    simp only [sumV]
    split <;> omega

theorem addF_vals {es : List Entry} (hl : es.length ≤ 1000) (ho : ∀ e, e ∈ es → oneN e = true) (p : Entry → Bool) : ∀ n : Nat, n ≤ es.length → addF (valsP p es n) = sumV (·.Value) p es n
  | 0, _ => rfl
  | n + 1, h => by
    have ih := addF_vals hl ho p n (by omega)
    have b := sumV_bound ho p (n + 1) h
    rw [valsP_succ]
    simp only [sumV] at b ⊢
    split
    · rename_i hp
      rw [if_pos hp] at b
      rw [addF_snoc, ih, wrap_i64 (by omega) (by omega)]
    · rw [ih]; omega

theorem vals_len (p : Entry → Bool) (es : List Entry) : ∀ n : Nat, ((valsP p es n).length : Int) = sumV (fun _ => 1) p es n
  | 0 => rfl
  | n + 1 => by
    have ih := vals_len p es n
    rw [valsP_succ]
    simp only [sumV]
    split
    · rw [List.length_append, List.length_singleton]; omega
    · omega

theorem valsP_congr {p q : Entry → Bool} {es : List Entry} : ∀ n : Nat, (∀ i, i < n → p (es.getD i default) = q (es.getD i default)) → valsP p es n = valsP q es n
  | 0, _ => rfl
  | n + 1, h => by rw [valsP_succ, valsP_succ, h n (by omega), valsP_congr n fun i hi => h i (by omega)]

theorem a2Sum_is {l : List Int} (hl : l.length ≤ 1099511627776) : laws_a2Sum l = some (addF l) := by
  unfold laws_a2Sum
  have := while_up (step := laws_a2Sum_l1 l) (fun i => addF (l.take i)) l.length (r := addF l) (fun i hi => by
    have e : addF (l.take (i + 1)) = IntKind.i64.wrap (addF (l.take i) + l.getD i default) := by
      rw [List.take_add_one, List.getElem?_eq_getElem hi, getD_lt hi]
      exact addF_snoc _ _
    simp only [laws_a2Sum_l1, Int.ofNat_lt, hi, decide_true, if_true, ixOk_nat, ck_true, Int.toNat_natCast, wrap_nat1 (show i < 9223372036854775807 by omega), e]) (by simp [laws_a2Sum_l1])
  rw [show whileE (laws_a2Sum_l1 l) (0, 0) = _ from this]
  rfl

/-! ### The law -/

theorem sumL_nonneg_take {α : Type} [Inhabited α] (g : α → Int) (l : List α) (i : Nat) (hi : i < l.length) : sumL g (l.take (i + 1)) = sumL g (l.take i) + g (l.getD i default) := by
  rw [List.take_add_one, List.getElem?_eq_getElem hi, getD_lt hi, sumL_app]
  simp [sumL]

theorem sumL_bound {α : Type} (g : α → Int) (B : Int) (hB : 0 ≤ B) : ∀ l : List α, (∀ x, x ∈ l → -B ≤ g x ∧ g x ≤ B) → -(B * l.length) ≤ sumL g l ∧ sumL g l ≤ B * l.length
  | [], _ => by simp [sumL]
  | x :: l, h => by
    have ih := sumL_bound g B hB l fun y hy => h y (by simp [hy])
    have hx := h x (by simp)
    simp only [sumL, List.length_cons, Int.natCast_add, Int.natCast_one, Int.mul_add, Int.mul_one]
    omega

theorem vals_pos {p : Entry → Bool} {es : List Entry} : ∀ n : Nat, (∃ i, i < n ∧ p (es.getD i default) = true) → 0 < (valsP p es n).length
  | 0, h => by obtain ⟨i, hi, _⟩ := h; omega
  | n + 1, h => by
    rw [valsP_succ]
    split
    · simp
    · rename_i hp
      obtain ⟨i, hi, hpi⟩ := h
      rcases Nat.lt_or_ge i n with h' | h'
      · exact vals_pos n ⟨i, h', hpi⟩
      · obtain rfl : i = n := by omega
        exact absurd hpi hp

theorem sumV_all (es : List Entry) : ∀ n : Nat, sumV (fun _ => 1) (fun _ => true) es n = n
  | 0 => rfl
  | n + 1 => by simp only [sumV, sumV_all es n, if_true]; omega

theorem names_ne {es : List Entry} {n : Nat} : (((namesP es n).length : Int) == 0) = ((n : Int) == 0) := by
  cases n with
  | zero => rfl
  | succ n =>
    have h := namesP_has es (n + 1) n (by omega)
    have hp := List.length_pos_of_mem h
    rw [Bool.eq_iff_iff, beq_iff_eq, beq_iff_eq]
    omega

theorem law_LogSums {code : List UInt8} (w : code.length ≤ maxLen ∧ ∀ x ∈ code, True) : laws_FnLogSums code = some true := by
  unfold laws_FnLogSums laws_a2Long
  simp only [Option.bind_some]
  by_cases h : 3000 < code.length
  · have e : decide ((3000 : Int) < (code.length : Int)) = true := decide_eq_true (by omega)
    simp only [e, Bool.true_or, if_true]
  · have e : decide ((3000 : Int) < (code.length : Int)) = false := decide_eq_false (by omega)
    have e' : decide ((3000 : Int) < (([] : List UInt8).length : Int)) = false := by decide
    simp only [e, e', Bool.or_self, Bool.false_eq_true, if_false]
    obtain ⟨es, e1, l7, hs, ho⟩ := A2Entries_is (code := code) (by omega)
    have hlen := makeP_len es 0 ho (by omega) (by omega)
    obtain ⟨p1, p2⟩ := logP_make hs ho
    have hL : (makeP 0 es).length ≤ 1048576 := by omega
    have hc : codeP (makeP 0 es) = 0 := by unfold codeP; rw [if_neg (by omega), if_pos p2]
    obtain ⟨es', q1, q2, _⟩ := EntriesOf_is hL
    obtain rfl : es' = es := (q2 hc).trans p1
    clear q2
    rw [hc] at q1
    have hN : impl_NamesIn (makeP 0 es') = some (namesP es' es'.length, 0) := by
      unfold impl_NamesIn
      rw [q1]
      simp only [Option.bind_some, beq_self_eq_true, Bool.not_true, Bool.false_eq_true, if_false]
      rw [implNames_loop (by omega)]
      rfl
    have hnl := namesP_len es' es'.length
    simp only [e1, LogOf_is l7 hs ho, hN, Option.bind_some, beq_self_eq_true, names_ne, Bool.not_true, Bool.or_self, Bool.false_eq_true, if_false]
    generalize hns : namesP es' es'.length = names at hnl
    have hname : ∀ x, x ∈ names → nameB x = true ∧ ∃ i, i < es'.length ∧ (es'.getD i default).What = x := fun x hx => by
      rw [← hns] at hx
      obtain ⟨i, h1, h2⟩ := namesP_of es' es'.length x hx
      have hm : es'.getD i default ∈ es' := by rw [getD_lt h1]; exact List.getElem_mem h1
      exact ⟨h2 ▸ oneN_name (ho _ hm), i, h1, h2⟩
    let gV : List UInt8 → Int := fun nm => sumV (·.Value) (fun e => e.What == nm) es' es'.length
    let g1 : List UInt8 → Int := fun nm => sumV (fun _ => 1) (fun e => e.What == nm) es' es'.length
    have hval : ∀ x, addF (valsP (fun e => e.What == x) es' es'.length) = gV x := fun x => addF_vals (by omega) ho _ _ (Nat.le_refl _)
    have hnum : ∀ x, ((valsP (fun e => e.What == x) es' es'.length).length : Int) = g1 x := fun x => vals_len _ _ _
    have bV : ∀ x, -7000000 ≤ gV x ∧ gV x ≤ 7000000 := fun x => by
      have := sumV_bound ho (fun e => e.What == x) es'.length (Nat.le_refl _)
      exact ⟨by show (-7000000 : Int) ≤ sumV _ _ _ _; omega, by show sumV _ _ _ _ ≤ (7000000 : Int); omega⟩
    have b1 : ∀ x, -7 ≤ g1 x ∧ g1 x ≤ 7 := fun x => by
      have := valsP_len (fun e => e.What == x) es' es'.length
      rw [← hnum x]
      omega
    have hS : ∀ x, x ∈ names → impl_SumOfWhat (makeP 0 es') x 0 100000 = some (gV x, 0) := fun x hx => by
      have hn := (hname x hx).1
      have hk := valsP_len (wantB x 0 100000) es' es'.length
      unfold impl_SumOfWhat
      rw [q1]
      simp only [Option.bind_some, impl_IsName_is, impl_in_is, hn, Option.isSome_some, Bool.or_true, ck_true, Option.getD_some, beq_self_eq_true, Bool.not_true, Bool.false_eq_true, if_false, Bool.false_or]
      rw [if_neg (by decide), valuesS_is x 0 100000 (by omega)]
      simp only [Option.bind_some]
      rw [sum_is (by omega)]
      have hcg : valsP (wantB x 0 100000) es' es'.length = valsP (fun e => e.What == x) es' es'.length := valsP_congr _ fun i hi => by
        have hm : es'.getD i default ∈ es' := by rw [getD_lt hi]; exact List.getElem_mem hi
        have hin := oneN_in (ho _ hm)
        unfold wantB
        rw [decide_eq_true hin.1, decide_eq_true hin.2.1]
        simp
      rw [hcg, hval]
      rfl
    have hVs : ∀ x, x ∈ names → impl_ValuesOf (makeP 0 es') x = some (valsP (fun e => e.What == x) es' es'.length, 0) := fun x hx => by
      have hn := (hname x hx).1
      unfold impl_ValuesOf
      rw [q1]
      simp only [Option.bind_some, impl_IsName_is, hn, beq_self_eq_true, Bool.not_true, Bool.false_eq_true, if_false]
      rw [valuesV_is x (by omega)]
      rfl
    have bS : ∀ i, i ≤ names.length → -100000000 ≤ sumL gV (names.take i) ∧ sumL gV (names.take i) ≤ 100000000 := fun i hi => by
      have := sumL_bound gV 7000000 (by omega) (names.take i) fun x _ => bV x
      rw [List.length_take] at this
      omega
    have bM : ∀ i, i ≤ names.length → -100 ≤ sumL g1 (names.take i) ∧ sumL g1 (names.take i) ≤ 100 := fun i hi => by
      have := sumL_bound g1 7 (by omega) (names.take i) fun x _ => b1 x
      rw [List.length_take] at this
      omega
    have loop1 := whileE_run (step := laws_FnLogSums_l1 es' (makeP 0 es') names) (fun i => (sumL gV (names.take i), sumL g1 (names.take i), (i : Int))) names.length (r := .inl (sumL gV names, sumL g1 names)) (fun i hi => by
      have hx : names.getD i default ∈ names := by rw [getD_lt hi]; exact List.getElem_mem hi
      have hpos := vals_pos (p := fun e => e.What == names.getD i default) (es := es') es'.length (by
        obtain ⟨j, h1, h2⟩ := (hname _ hx).2
        exact ⟨j, h1, by rw [h2]; exact beq_self_eq_true _⟩)
      have hk := valsP_len (fun e => e.What == names.getD i default) es' es'.length
      have s1 := sumL_nonneg_take gV names i hi
      have s2 := sumL_nonneg_take g1 names i hi
      have t1 := bS (i + 1) hi
      have t2 := bM (i + 1) hi
      have hz : (g1 (names.getD i default) == 0) = false := by rw [beq_eq_false_iff_ne, ← hnum]; omega
      simp only [laws_FnLogSums_l1, Int.ofNat_lt, hi, decide_true, if_true, ixOk_nat, ck_true, Int.toNat_natCast, hS _ hx, hVs _ hx, Option.bind_some, beq_self_eq_true, Bool.not_true, Bool.false_or, hz, a2Sum_is (l := valsP (fun e => e.What == names.getD i default) es' es'.length) (by omega), Option.isSome_some, Bool.or_true, Option.getD_some, hval, Bool.false_eq_true, if_false, wrap_nat1 (show i < 9223372036854775807 by omega), hnum]
      rw [s1, s2] at *
      rw [wrap_i64 (by omega) (by omega), wrap_i64 (by omega) (by omega)]) (by simp [laws_FnLogSums_l1])
    have l1' : whileE (laws_FnLogSums_l1 es' (makeP 0 es') names) (0, 0, 0) = some (.inl (sumL gV names, sumL g1 names)) := loop1
    have loop2 := while_up (step := laws_FnLogSums_l2 es' (sumL gV names) (sumL g1 names)) (fun i => sumV (·.Value) (fun _ => true) es' i) es'.length (r := sumV (·.Value) (fun _ => true) es' es'.length) (fun i hi => by
      have b := sumV_bound ho (fun _ => true) (i + 1) hi
      simp only [sumV, if_true] at b
      simp only [laws_FnLogSums_l2, Int.ofNat_lt, hi, decide_true, if_true, ixOk_nat, ck_true, Int.toNat_natCast, wrap_nat1 (show i < 9223372036854775807 by omega), sumV]
      rw [wrap_i64 (by omega) (by omega)]) (by simp [laws_FnLogSums_l2])
    have l2' : whileE (laws_FnLogSums_l2 es' (sumL gV names) (sumL g1 names)) (0, 0) = some (sumV (·.Value) (fun _ => true) es' es'.length) := loop2
    have t1 : sumL gV names = sumV (·.Value) (fun _ => true) es' es'.length := by rw [← hns]; exact sum_names _ _ _
    have t2 : sumL g1 names = (es'.length : Int) := by rw [← hns, ← sumV_all es' es'.length]; exact sum_names _ _ _
    rw [l1']
    simp only [Option.bind_some]
    rw [l2']
    simp only [Option.bind_some, t1, t2, beq_self_eq_true, Bool.and_self]

end Go.Proofs.YtkdojfpjnnceiaaDoor
