/- The plain law of FnQueue. No condition. -/
import Derived.Test.YtibabbjpkjmdeaaGreatDoorHNext
import Derived.Test.YtibabbjpkjmdeaaGreatDoorHPB
import Derived.Test.YtibabbjpkjmdeaaGreatDoorHPC
namespace Go.Proofs.YtibabbjpkjmdeaaGreatDoor
open Go Go.RowKit
set_option linter.unusedSimpArgs false
set_option linter.unusedVariables false

/-! ### Draws -/

theorem l22SpoilOne_is {m : Nat} {s : L00Src} (h : SrcN (m + 20) s) (x : Request) : ∃ y s', spec_l22Spoil s x = some (s', y) ∧ SrcN m s' := by
  unfold spec_l22Spoil
  obtain ⟨v, s1, e1, _, _, _, h1'⟩ := pick_is (m := m + 18) h (n := 5) (by omega)
  rw [e1, Option.bind_some]
  simp only
  split
  · obtain ⟨x, s2, e2, _, h2⟩ := text_is (m := m + 10) (h1'.le (by omega)) (l := [([] : List UInt8), ([77, 105, 114, 97] : List UInt8), ([120] : List UInt8)]) (by simp) (by simp)
    rw [e2]; exact ⟨_, _, rfl, h2.le (by omega)⟩
  · split
    · obtain ⟨x, s2, e2, _, h2⟩ := among_is (m := m + 10) (h1'.le (by omega)) (l := [(-1), 0, x.To, (IntKind.i64.wrap (x.To + 1))]) (by simp) (by simp)
      rw [e2]; exact ⟨_, _, rfl, h2.le (by omega)⟩
    · split
      · obtain ⟨x, s2, e2, _, h2⟩ := among_is (m := m + 10) (h1'.le (by omega)) (l := [(-1), 10000000, 10000001]) (by simp) (by simp)
        rw [e2]; exact ⟨_, _, rfl, h2.le (by omega)⟩
      · split
        · obtain ⟨x, s2, e2, _, h2⟩ := among_is (m := m + 10) (h1'.le (by omega)) (l := [0, x.Done, 100, 101, (-9223372036854775808)]) (by simp) (by simp)
          rw [e2]; exact ⟨_, _, rfl, h2.le (by omega)⟩
        · split
          · obtain ⟨x, s2, e2, _, h2⟩ := among_is (m := m + 10) (h1'.le (by omega)) (l := [0, 1, 5, 6]) (by simp) (by simp)
            rw [e2]; exact ⟨_, _, rfl, h2.le (by omega)⟩
          · exact ⟨_, _, rfl, h1'.le (by omega)⟩

theorem DrawNextRequest_is {c : List UInt8} (h : c.length ≤ 1099511627776) : ∃ l t, spec_DrawNextRequest c = some (l, t) ∧ l.length ≤ 40 := by
  unfold spec_DrawNextRequest spec_l22Ask
  obtain ⟨l, s1, e1, hl, h1⟩ := l22Bent_is (m := 1000) ((srcN_from h).le (by omega))
  obtain ⟨t, s3, e3, _⟩ := l06When_is (m := 800) (h1.le (by omega))
  rw [From_is, Option.bind_some, e1, Option.bind_some, e3]
  exact ⟨_, _, rfl, hl⟩

theorem slots_loop {m : Nat} (a : List Request) {s : L00Src} {t k : Int} (h0 : 0 ≤ k) (h1 : k ≤ 20) (h : SrcN (m + 60) s) : ∃ l s', whileE (spec_DrawPlanSlots_l1 a) (s, ([] : List Int), t, k) = some (s', l) ∧ l.length ≤ 20 ∧ SrcN m s' := by
  obtain ⟨y, hy, hq⟩ := while_post (step := spec_DrawPlanSlots_l1 a) (fun x => 0 ≤ x.2.2.2 ∧ (x.2.1.length : Int) + x.2.2.2 ≤ 20 ∧ SrcN (m + 3 * x.2.2.2.toNat) x.1) (fun y => y.2.length ≤ 20 ∧ SrcN m y.1) (fun x => x.2.2.2.toNat) (by
    rintro ⟨s, l, t, k⟩ ⟨k0, k1, hk⟩
    simp only at k0 k1 hk
    by_cases c : 0 < k
    · left
      obtain ⟨v, s', e, _, _, _, h'⟩ := pick_is (m := m + 3 * (k - 1).toNat) (hk.le (by omega)) (n := 6) (by omega)
      simp only [spec_DrawPlanSlots_l1, c, decide_true, if_true]
      rw [appOk_of (by simp; omega), ck_true, e, Option.bind_some, wrap_i64 (n := k - 1) (by omega) (by omega)]
      exact ⟨_, rfl, ⟨by show 0 ≤ k - 1; omega, by show ((l ++ [_]).length : Int) + (k - 1) ≤ 20; simp; omega, h'⟩, by show (k - 1).toNat < k.toNat; omega⟩
    · right
      exact ⟨(s, l), by simp [spec_DrawPlanSlots_l1, c], by show l.length ≤ 20; omega, hk.le (by omega)⟩) (s := (s, ([] : List Int), t, k)) ⟨h0, by simp; omega, h.le (by show m + 3 * k.toNat ≤ m + 60; omega)⟩
  exact ⟨y.2, y.1, hy, hq.1, hq.2⟩

theorem slots_loop2 (a : List Request) {n : Int} (h0 : 0 ≤ n) (h1 : n ≤ 200) : ∃ l, whileE (spec_DrawPlanSlots_l2 a) (([] : List Int), n) = some l ∧ l.length ≤ 200 := by
  obtain ⟨y, hy, q⟩ := while_post (step := spec_DrawPlanSlots_l2 a) (fun x => 0 ≤ x.2 ∧ (x.1.length : Int) + x.2 ≤ 200) (fun y => y.length ≤ 200) (fun x => x.2.toNat) (by
    rintro ⟨l, k⟩ ⟨k0, k1⟩
    simp only at k0 k1
    by_cases c : 0 < k
    · left
      simp only [spec_DrawPlanSlots_l2, c, decide_true, if_true]
      rw [appOk_of (by simp; omega), ck_true, wrap_i64 (n := k - 1) (by omega) (by omega)]
      exact ⟨_, rfl, ⟨by show 0 ≤ k - 1; omega, by show ((l ++ [_]).length : Int) + (k - 1) ≤ 200; simp; omega⟩, by show (k - 1).toNat < k.toNat; omega⟩
    · right
      exact ⟨l, by simp [spec_DrawPlanSlots_l2, c], by omega⟩) (s := (([] : List Int), n)) ⟨h0, by simp; omega⟩
  exact ⟨y, hy, q⟩

theorem DrawPlanSlots_is {c : List UInt8} (h : c.length ≤ 1099511627776) : ∃ l s, spec_DrawPlanSlots c = some (l, s) ∧ l.length ≤ 40 ∧ s.length ≤ 1000 := by
  unfold spec_DrawPlanSlots
  obtain ⟨l, s1, e1, hl, h1⟩ := l22Bent_is (m := 10000) ((srcN_from h).le (by omega))
  obtain ⟨a, s2, e2, _, _, _, h2⟩ := pick_is (m := 9000) (h1.le (by omega)) (n := 20) (by omega)
  obtain ⟨k, s3, e3, k0, k1, _, h3⟩ := pick_is (m := 8000) (h2.le (by omega)) (n := 12) (by omega)
  have k2 := k1 (by omega)
  obtain ⟨sl, s4, e4, hs, h4⟩ := slots_loop (m := 7000) l (t := IntKind.i64.wrap (500 * a)) k0 (by omega) (h3.le (by omega))
  obtain ⟨v, s5, e5, _, _, _, h5⟩ := pick_is (m := 6000) (h4.le (by omega)) (n := 20) (by omega)
  rw [From_is, Option.bind_some, e1, Option.bind_some, e2, Option.bind_some, e3, Option.bind_some]
  simp only
  rw [e4, Option.bind_some]
  simp only
  rw [e5, Option.bind_some]
  simp only
  split
  · obtain ⟨x, s6, e6, _, _⟩ := among_is (m := 5000) (h5.le (by omega)) (l := [(-1), 0, 10000000, 10000001]) (by simp) (by simp)
    rw [e6, Option.bind_some, appOk_of (by simp; omega), ck_true]
    exact ⟨_, _, rfl, hl, by simp; omega⟩
  · split
    · obtain ⟨x, s6, e6, x0, x1, _, _⟩ := pick_is (m := 5000) (h5.le (by omega)) (n := 2) (by omega)
      have x2 := x1 (by omega)
      rw [e6, Option.bind_some, wrap_i64 (n := 100 + x) (by omega) (by omega)]
      obtain ⟨q, e7, hq⟩ := slots_loop2 l (n := 100 + x) (by omega) (by omega)
      rw [e7]
      exact ⟨_, _, rfl, hl, by omega⟩
    · exact ⟨_, _, rfl, hl, by omega⟩

theorem DrawAddRequest_is {c : List UInt8} (h : c.length ≤ 1099511627776) : ∃ l x, spec_DrawAddRequest c = some (l, x) ∧ l.length ≤ 40 := by
  unfold spec_DrawAddRequest
  obtain ⟨l, s1, e1, hl, h1⟩ := l22Bent_is (m := 10000) ((srcN_from h).le (by omega))
  obtain ⟨x, s2, e2, h2⟩ := l22New_is (m := 9000) (h1.le (by omega))
  obtain ⟨b, s3, e3, h3⟩ := one_is (m := 8000) (h2.le (by omega)) (n := 6) (by omega)
  rw [From_is, Option.bind_some, e1, Option.bind_some, e2, Option.bind_some, e3, Option.bind_some]
  simp only
  split
  · obtain ⟨y, s4, e4, _⟩ := l22SpoilOne_is (m := 7000) (h3.le (by omega)) x
    rw [e4]; exact ⟨_, _, rfl, hl⟩
  · exact ⟨_, _, rfl, hl⟩

theorem DrawRequestText_is {c : List UInt8} (h : c.length ≤ 1099511627776) : ∃ x, spec_DrawRequestText c = some x := by
  unfold spec_DrawRequestText
  obtain ⟨x, s2, e2, h2⟩ := l22New_is (m := 9000) ((srcN_from h).le (by omega))
  obtain ⟨b, s3, e3, h3⟩ := one_is (m := 8000) (h2.le (by omega)) (n := 6) (by omega)
  rw [From_is, Option.bind_some, e2, Option.bind_some, e3, Option.bind_some]
  simp only
  split
  · obtain ⟨y, s4, e4, _⟩ := l22SpoilOne_is (m := 7000) (h3.le (by omega)) x
    rw [e4]; exact ⟨_, rfl⟩
  · exact ⟨_, rfl⟩

theorem l22Text_is {x : Request} (h : oneR x = true) : spec_l22Text x = some (textR x) := by
  have := RequestText_spec x
  unfold spec_RequestText at this
  rw [l22One_is, Option.bind_some, h, if_pos rfl] at this
  simp only [Bool.not_true, Bool.false_eq_true, if_false] at this
  cases ht : spec_l22Text x with
  | none => rw [ht] at this; cases this
  | some t => rw [ht] at this; simpa using this

theorem DrawReadRequest_is {c : List UInt8} (h : c.length ≤ 1099511627776) : ∃ x, spec_DrawReadRequest c = some x ∧ x.length ≤ 1000 := by
  unfold spec_DrawReadRequest
  obtain ⟨x, s2, e2, hx, h2⟩ := l22New_good (m := 9000) ((srcN_from h).le (by omega))
  obtain ⟨b, s3, e3, h3⟩ := one_is (m := 8000) (h2.le (by omega)) (n := 3) (by omega)
  have hl := text_len hx
  rw [From_is, Option.bind_some, e2, Option.bind_some]
  simp only
  rw [l22Text_is hx, Option.bind_some, e3, Option.bind_some]
  simp only
  split
  · obtain ⟨y, s4, e4, hy⟩ := l01Spoil_is (m := 7000) (h3.le (by omega)) (t := textR x) (by omega)
    rw [e4]; exact ⟨_, rfl, by simp only; omega⟩
  · exact ⟨_, rfl, by omega⟩

theorem DrawSameRequests_is {c : List UInt8} (h : c.length ≤ 1099511627776) : ∃ a b, spec_DrawSameRequests c = some (a, b) ∧ a.length ≤ 100 ∧ b.length ≤ 100 := by
  unfold spec_DrawSameRequests
  obtain ⟨l, s1, e1, hl, h1⟩ := l22Bent_is (m := 10000) ((srcN_from h).le (by omega))
  rw [From_is, Option.bind_some, e1, Option.bind_some]
  simp only [List.nil_append]
  rw [appOk_of (by simp; omega), ck_true]
  have tail : ∀ {m : Nat} {s : L00Src} (b : List Request), SrcN (m + 2) s → b.length ≤ 40 → ∃ a' b', ((spec_l00Src_one s 5).bind fun y_12 =>
      if y_12.1 then
        ck (appOk (b.length + ([(Request.mk [] 0 0 0 0 0)] : List Request).length) 56) <|
        some (l, (b ++ ([(Request.mk [] 0 0 0 0 0)] : List Request)))
      else
        some (l, b)) = some (a', b') ∧ a'.length ≤ 100 ∧ b'.length ≤ 100 := by
    intro m s b hs hb
    obtain ⟨v, s', e, _⟩ := one_is (m := m) hs (n := 5) (by omega)
    rw [e, Option.bind_some]
    simp only
    split
    · rw [appOk_of (by simp; omega), ck_true]
      exact ⟨_, _, rfl, by omega, by simp; omega⟩
    · exact ⟨_, _, rfl, by omega, by omega⟩
  split
  · rename_i hp
    have hp : 0 < (l.length : Int) := by simpa using hp
    obtain ⟨b, s2, e2, h2⟩ := one_is (m := 9000) (h1.le (by omega)) (n := 2) (by omega)
    rw [e2, Option.bind_some]
    simp only
    split
    · rw [ixOk_of (by omega) (by omega), ck_true]
      obtain ⟨v, s3, e3, _, _, _, h3⟩ := pick_is (m := 8000) (h2.le (by omega)) (n := 2) (by omega)
      rw [e3, Option.bind_some]
      exact tail (m := 7000) _ (h3.le (by omega)) (by rw [List.length_set]; omega)
    · exact tail (m := 7000) l (h2.le (by omega)) hl
  · exact tail (m := 7000) l (h1.le (by omega)) hl

/-! ### Equal lists -/

theorem SameRequests_is {a b : List Request} (h : a.length ≤ 1099511627776) : spec_SameRequests a b = some (decide (a = b)) := by
  unfold spec_SameRequests
  by_cases hl : a.length = b.length
  · have e : (!((a.length : Int) == (b.length : Int))) = false := by simp [hl]
    rw [e]
    simp only [Bool.false_eq_true, if_false]
    rw [while_all (step := spec_SameRequests_l1 a b) (fun i => a.getD i default == b.getD i default) a.length (decide (a = b)) (yes := .inl ()) (no := .inr false) (by
      rw [decide_eq_true_eq]; exact (getD_eq_iff hl).symm) (fun i hi => by
      simp only [spec_SameRequests_l1, Int.ofNat_lt, hi, decide_true, if_true, ixOk_nat, ck_true, Int.toNat_natCast, wrap_nat1 (show i < 9223372036854775807 by omega), show i < b.length by omega]
      have e2 : ((((a.getD i default).Star) == ((b.getD i default).Star)) && ((((a.getD i default).From) == ((b.getD i default).From)) && ((((a.getD i default).To) == ((b.getD i default).To)) && ((((a.getD i default).Wanted) == ((b.getD i default).Wanted)) && ((((a.getD i default).Done) == ((b.getD i default).Done)) && (((a.getD i default).Priority) == ((b.getD i default).Priority))))))) = (a.getD i default == b.getD i default) := by
        generalize a.getD i default = x
        generalize b.getD i default = y
        rw [Bool.eq_iff_iff]
        cases x; cases y
        simp [Request.mk.injEq]
      rw [e2]
      cases (a.getD i default == b.getD i default) <;> rfl) (by simp [spec_SameRequests_l1])]
    by_cases hab : a = b
    · simp [hab]
    · simp [hab]
  · have e : (!((a.length : Int) == (b.length : Int))) = true := by
      simp; omega
    rw [e]
    have : a ≠ b := fun c => hl (by rw [c])
    simp [this]

theorem SameRequests_impl (a b : List Request) : impl_SameRequests a b = (spec_SameRequests a b).bind fun y => some y := by
  unfold impl_SameRequests slices_Equal_impl_Request_impl_Request spec_SameRequests
  have e : slices_Equal_impl_Request_impl_Request_l1 a b (a.length : Int) = spec_SameRequests_l1 a b := id rfl
  rw [e]

theorem f6ints_refl {l : List Int} (hl : l.length ≤ 1000000) : laws_f6ints l l = some true := by
  unfold laws_f6ints
  rw [if_neg (by simp), while_all (step := laws_f6ints_l1 l l) (fun _ => true) l.length true (yes := .inl ()) (no := .inr false) (by simp) (fun i hi => by
    simp only [laws_f6ints_l1, Int.ofNat_lt, hi, decide_true, if_true, ixOk_nat, ck_true, Int.toNat_natCast, wrap_nat1 (show i < 9223372036854775807 by omega), beq_self_eq_true, Bool.not_true, Bool.false_eq_true, if_false]) (by simp [laws_f6ints_l1])]
  rfl

theorem AddRequest_same {l : List Request} (hl : l.length ≤ 1000) (x : Request) : ∃ y c, y.length ≤ 1000000 ∧ impl_AddRequest l x = some (y, c) ∧ spec_AddRequest l x = some (y, c) := by
  unfold impl_AddRequest spec_AddRequest
  rw [ValidRequests_is (by omega), l22Ok_is (by omega), Option.bind_some, Option.bind_some, isRequest_is, l22One_is, copyR_is (by omega)]
  cases hv : validR l
  · exact ⟨[], 1, by simp, rfl, rfl⟩
  · have h30 : l.length ≤ 30 := by unfold validR at hv; simp only [Bool.and_eq_true, decide_eq_true_eq] at hv; exact hv.2
    cases oneR x
    · exact ⟨[], 2, by simp, rfl, rfl⟩
    · simp only [Bool.not_true, Bool.false_eq_true, if_false, Option.bind_some, List.nil_append]
      by_cases h : l.length = 30
      · rw [if_pos (by simp [h]), if_pos (by simp [h])]
        exact ⟨[], 5, by simp, rfl, rfl⟩
      · rw [if_neg (by simp; omega), if_neg (by simp; omega), appOk_of (by simp; omega), ck_true, appOk_of (by simp; omega), ck_true]
        exact ⟨_, 0, by simp; omega, rfl, rfl⟩

/-! ### The counts -/

def cntL (l : List Request) (s : List Int) (i : Nat) : List Int := (List.range l.length).map fun j => ((planTo l s i).1.getD j default).Done - (l.getD j default).Done

theorem cntL_len (l : List Request) (s : List Int) (i : Nat) : (cntL l s i).length = l.length := by unfold cntL; simp

theorem cntL_at {l : List Request} {s : List Int} {i j : Nat} (hj : j < l.length) : (cntL l s i).getD j default = ((planTo l s i).1.getD j default).Done - (l.getD j default).Done := by
  rw [getD_lt (by rw [cntL_len]; exact hj)]
  unfold cntL
  rw [List.getElem_map, List.getElem_range]

theorem plan_out {l : List Request} (s : List Int) (hg : goodR l = true) : ∀ n i, i < n → (planTo l s n).2.getD i default = nextR (planTo l s i).1 (s.getD i default)
  | 0, _, h => by omega
  | n + 1, i, h => by
    have ho := (plan_ok hg s n).out
    have key : (planTo l s (n + 1)).2 = (planTo l s n).2 ++ [nextR (planTo l s n).1 (s.getD n default)] := by
      rw [planTo]; split <;> rfl
    rw [key, List.getD_eq_getElem?_getD]
    by_cases e : i = n
    · subst e
      rw [List.getElem?_append_right (by omega), ho, Nat.sub_self]; rfl
    · rw [List.getElem?_append_left (by omega), ← List.getD_eq_getElem?_getD]
      exact plan_out s hg n i (by omega)

theorem counts_loop {l : List Request} (hl : l.length ≤ 1000) (hg : goodR l = true) {s : List Int} (hs : s.length ≤ 1000) (list : List Request) (k bad model one : Int) (some_ : List Int) :
    whileE (laws_FnQueue_l1 list k bad model one some_ l s (planTo l s s.length).2) (List.replicate l.length (0 : Int), 0) = some (.inl ()) := by
  have h0 : List.replicate l.length (0 : Int) = cntL l s 0 := by
    apply List.ext_getElem
    · simp [cntL]
    · intro i h1 h2
      simp [cntL, planTo]
  have hout := (plan_ok hg s s.length).out
  have := while_up (step := laws_FnQueue_l1 list k bad model one some_ l s (planTo l s s.length).2) (fun i => cntL l s i) s.length (r := .inl ()) (fun i hi => by
    obtain ⟨h1, h2, h3, h4⟩ := plan_ok hg s i
    obtain ⟨n1, n2, n3⟩ := nextTo_in (planTo l s i).1 (s.getD i default) (planTo l s i).1.length
    simp only [laws_FnQueue_l1, hout, Int.ofNat_lt, hi, decide_true, if_true, ixOk_nat, ck_true, Int.toNat_natCast, plan_out s hg s.length i hi, wrap_nat1 (show i < 9223372036854775807 by omega)]
    by_cases c : 0 ≤ nextR (planTo l s i).1 (s.getD i default)
    · have hk : (nextR (planTo l s i).1 (s.getD i default)).toNat < (planTo l s i).1.length := by unfold nextR at c ⊢; omega
      have hkl : (nextR (planTo l s i).1 (s.getD i default)).toNat < l.length := by omega
      have ho := n3 c
      have hnx : cntL l s (i + 1) = (cntL l s i).set (nextR (planTo l s i).1 (s.getD i default)).toNat ((cntL l s i).getD (nextR (planTo l s i).1 (s.getD i default)).toNat default + 1) := by
        apply List.ext_getElem
        · rw [List.length_set, cntL_len, cntL_len]
        · intro j j1 j2
          have hj : j < l.length := by rw [cntL_len] at j1; exact j1
          rw [← getD_lt j1 default, ← getD_lt j2 default, set_getD (by rw [cntL_len]; exact hkl), cntL_at hj, cntL_at hj, cntL_at hkl, planTo, if_pos c]
          simp only
          rw [set_getD hk]
          by_cases e : j = (nextR (planTo l s i).1 (s.getD i default)).toNat
          · rw [if_pos e, if_pos e, ← e]; show _ + 1 - _ = _; omega
          · rw [if_neg e, if_neg e]
      have hc1 : ¬ nextR (planTo l s i).1 (s.getD i default) < 0 := by omega
      obtain ⟨f1, f2, f3⟩ := h4 (nextR (planTo l s i).1 (s.getD i default)).toNat
      have ho' : openR ((planTo l s i).1.getD (nextR (planTo l s i).1 (s.getD i default)).toNat default) (s.getD i default) = true := ho
      unfold openR at ho'
      simp only [Bool.and_eq_true, decide_eq_true_eq, f1, f2, f3] at ho'
      obtain ⟨⟨o1, o2⟩, o3⟩ := ho'
      obtain ⟨_, w1, d1, _⟩ := oneR_in (goodR_at hg hkl)
      obtain ⟨_, w2, d2, _⟩ := oneR_in (goodR_at h2 hk)
      simp only [hc1, decide_false, Bool.false_eq_true, if_false]
      rw [ixOk_of c (by omega), ck_true, ixOk_of c (by rw [cntL_len]; omega), ck_true, hnx]
      rw [cntL_at hkl]
      have q1 : ¬ s.getD i default < (l.getD (nextR (planTo l s i).1 (s.getD i default)).toNat default).From := by omega
      have q2 : ¬ (l.getD (nextR (planTo l s i).1 (s.getD i default)).toNat default).To < s.getD i default := by omega
      rw [wrap_i64 (n := _ - _ + 1) (by omega) (by omega), wrap_i64 (by omega) (by omega)]
      have q3 : ¬ (l.getD (nextR (planTo l s i).1 (s.getD i default)).toNat default).Wanted < (l.getD (nextR (planTo l s i).1 (s.getD i default)).toNat default).Done + (((planTo l s i).1.getD (nextR (planTo l s i).1 (s.getD i default)).toNat default).Done - (l.getD (nextR (planTo l s i).1 (s.getD i default)).toNat default).Done + 1) := by omega
      simp only [q1, q2, q3, decide_false, Bool.or_self, Bool.false_eq_true, if_false]
    · have hc1 : nextR (planTo l s i).1 (s.getD i default) < 0 := by omega
      have hnx : cntL l s (i + 1) = cntL l s i := by
        unfold cntL
        rw [planTo, if_neg c]
      simp only [hc1, decide_true, if_true, hnx]) (by simp [laws_FnQueue_l1, hout])
  rw [← h0] at this
  exact this

/-! ### What comes first -/

theorem found_loop {l : List Request} (hl : l.length ≤ 1000) (t : Int) (h0 : 0 ≤ nextR l t) {step : Bool × Int → Option ((Bool × Int) ⊕ (Bool ⊕ Bool))}
    (hs : ∀ (found : Bool) (i : Int), step (found, i) = if (decide (i < ((opens l t).length : Int))) then
      ck (!(!found) || ixOk i (opens l t).length) <|
      ck (ixOk i (opens l t).length) <|
      ck (ixOk ((opens l t).getD i.toNat default) l.length) <|
      ck (ixOk (nextR l t) l.length) <|
      if (decide (((l.getD (nextR l t).toNat default).Priority) < ((l.getD ((opens l t).getD i.toNat default).toNat default).Priority))) then
        some (.inr (.inr false))
      else
        some (.inl ((found || (((opens l t).getD i.toNat default) == nextR l t)), (IntKind.i64.wrap (i + 1))))
    else
      some (.inr (.inl found))) : whileE step (false, 0) = some (.inl true) := by
  obtain ⟨n1, n2, n3⟩ := nextTo_in l t l.length
  have hmem : ∀ x, x ∈ opens l t → 0 ≤ x ∧ x < l.length ∧ openR (l.getD x.toNat default) t = true := by
    intro x hx
    unfold opens keptTo at hx
    obtain ⟨i, hi, rfl⟩ := List.mem_map.1 hx
    obtain ⟨a, b⟩ := List.mem_filter.1 hi
    simp at a
    exact ⟨by omega, by omega, by simpa using b⟩
  have hlen : (opens l t).length ≤ 1000 := by
    have := keptTo_len (fun i => openR (l.getD i default) t) (fun i => (i : Int)) l.length
    unfold opens
    omega
  have hin : nextR l t ∈ opens l t := by
    unfold opens keptTo
    refine List.mem_map.2 ⟨(nextR l t).toNat, List.mem_filter.2 ⟨by simp only [List.mem_range]; unfold nextR at h0 ⊢; omega, ?_⟩, by omega⟩
    exact n3 h0
  have := while_up (step := step) (fun i => ((opens l t).take i).any (· == nextR l t)) (opens l t).length (r := .inl (((opens l t).take (opens l t).length).any (· == nextR l t))) (fun i hi => by
    rw [hs]
    obtain ⟨m0, m1, m2⟩ := hmem _ (getD_mem hi default)
    obtain ⟨_, b2⟩ := nextTo_best l t l.length ((opens l t).getD i default).toNat (by omega) m2
    have b3 : ¬ (l.getD (nextR l t).toNat default).Priority < (l.getD ((opens l t).getD i default).toNat default).Priority := by unfold nextR; omega
    simp only [Int.ofNat_lt, hi, decide_true, if_true, ixOk_nat, Bool.or_true, ck_true, Int.toNat_natCast, wrap_nat1 (show i < 9223372036854775807 by omega)]
    rw [ixOk_of m0 (by omega), ck_true, ixOk_of h0 (by unfold nextR; omega), ck_true]
    simp only [b3, decide_false, Bool.false_eq_true, if_false]
    rw [List.take_succ_eq_append_getElem hi, List.any_append, ← getD_lt hi default]
    simp) (by rw [hs]; simp)
  have z : ((opens l t).take 0).any (· == nextR l t) = false := by simp
  simp only [z] at this
  rw [this, List.take_length]
  congr 2
  rw [List.any_eq_true]
  exact ⟨_, hin, by simp⟩

theorem opens_none {l : List Request} {t : Int} (h : nextR l t < 0) : opens l t = [] := by
  unfold opens keptTo
  rw [List.map_eq_nil_iff, List.filter_eq_nil_iff]
  intro i hi ho
  have hi' : i < l.length := by simpa using hi
  obtain ⟨a, _⟩ := nextTo_best l t l.length i hi' ho
  unfold nextR at h
  omega

theorem textR_ne (x : Request) : textR x ≠ [] := by
  unfold textR wordsR
  simp [joinOn]

theorem law_Queue {code : List UInt8} (w : code.length ≤ maxLen) : laws_FnQueue code = some true := by
  unfold laws_FnQueue laws_f6big
  rw [Option.bind_some]
  by_cases hb : (4096 : Int) < (code.length : Int)
  · simp [hb]
  have hc : code.length ≤ 1099511627776 := by omega
  rw [if_neg (by simpa using hb)]
  obtain ⟨l, t, e1, hl⟩ := DrawNextRequest_is hc
  obtain ⟨e2, e3⟩ := NextRequest_same (l := l) (by omega) t
  have e4 := OpenRequests_is (l := l) (by omega) t
  have e5 := OpenRequests_spec (l := l) (by omega) t
  obtain ⟨a, s, e6, ha, hs⟩ := DrawPlanSlots_is hc
  obtain ⟨o, c3, ho, e7, e8, k3⟩ := PlanSlots_same (l := a) (s := s) (by omega) hs
  obtain ⟨b, x, e9, hb⟩ := DrawAddRequest_is hc
  obtain ⟨y, c5, hy, e10, e11⟩ := AddRequest_same (l := b) (by omega) x
  obtain ⟨r, e12⟩ := DrawRequestText_is hc
  have e13 := RequestText_impl r
  have e14 := RequestText_spec r
  obtain ⟨q, e15, hq⟩ := DrawReadRequest_is hc
  have e16 := ReadRequest_impl (s := q) (by omega)
  have e17 := ReadRequest_spec (s := q) (by omega)
  obtain ⟨a1, a2, e18, h1, h2⟩ := DrawSameRequests_is hc
  have e19 := SameRequests_is (a := a1) (b := a2) (by omega)
  have e20 : impl_SameRequests a1 a2 = some (decide (a1 = a2)) := by rw [SameRequests_impl, e19]; rfl
  have e21 := SameRequests_refl hy
  have e22 := f6ints_refl (l := o) (by omega)
  have e23 := ValidRequests_is (l := l) (by omega)
  have e24 : spec_ValidRequests l = some (validR l) := by unfold spec_ValidRequests; rw [l22Ok_is (by omega)]; rfl
  have hol : (opens l t).length ≤ 1000000 := by
    have := keptTo_len (fun i => openR (l.getD i default) t) (fun i => (i : Int)) l.length
    unfold opens
    omega
  -- the text that is made is read back
  have hrd : ∃ z ok, impl_ReadRequest (if oneR r = true then textR r else []) = some (z, ok) ∧ ok = (!((if oneR r = true then textR r else []) == ([] : List UInt8))) ∧ (ok && (!((z.Star == r.Star) && ((z.From == r.From) && ((z.To == r.To) && ((z.Wanted == r.Wanted) && ((z.Done == r.Done) && (z.Priority == r.Priority)))))))) = false := by
    by_cases h : oneR r = true
    · rw [if_pos h]
      have := text_len h
      refine ⟨r, true, by rw [ReadRequest_impl (by omega), readR_text h], ?_, by simp⟩
      have := textR_ne r
      cases ht : textR r with
      | nil => exact absurd ht this
      | cons => rfl
    · rw [if_neg h]
      refine ⟨⟨[], 0, 0, 0, 0, 0⟩, false, ?_, rfl, rfl⟩
      rw [ReadRequest_impl (by simp), readR_none]
      rintro ⟨x, _, e⟩
      exact textR_ne x e.symm
  obtain ⟨z, ok, e25, e26, e27⟩ := hrd
  -- equal answers
  obtain ⟨nk, nc, hn⟩ : ∃ nk nc, (if codeR l t = 0 then (if nextR l t < 0 then ((0 : Int), (3 : Int)) else (nextR l t, 0)) else (0, codeR l t)) = (nk, nc) := ⟨_, _, rfl⟩
  obtain ⟨os, oc, hos⟩ : ∃ os oc, (if codeR l t = 0 then (opens l t, (0 : Int)) else ([], codeR l t)) = (os, oc) := ⟨_, _, rfl⟩
  rw [hn] at e2 e3
  rw [hos] at e4 e5
  have hosl : os.length ≤ 1000000 := by
    split at hos
    · cases hos; exact hol
    · cases hos; simp
  have e28 := f6ints_refl hosl
  simp only [e1, e2, e3, e4, e5, e6, e7, e8, e9, e10, e11, e12, e13, e14, e15, e16, e17, e18, e19, e20, e21, e22, e23, e24, e25, e28, Option.bind_some, Option.isSome_some, Option.getD_some, Bool.or_true, ck_true, beq_self_eq_true, Bool.not_true, Bool.and_self, Bool.or_self, Bool.false_or, Bool.or_false, Bool.false_eq_true, if_false, e26]
  rw [← e26, e27]
  simp only [Bool.false_eq_true, if_false]
  -- the last part
  have fin : (if (!(oc == 0)) = true then some true else if (!(nc == 0)) = true then some ((os.length : Int) == 0) else
      (whileE (laws_FnQueue_l3 l nk nk os) (false, 0)).bind fun y_57 => match y_57 with | .inl y_57a => some y_57a | .inr y_57b => some y_57b) = some true := by
    by_cases hcode : codeR l t = 0
    · rw [if_pos hcode] at hn hos
      cases hos
      rw [if_neg (by simp)]
      by_cases hlt : nextR l t < 0
      · rw [if_pos hlt] at hn
        cases hn
        rw [if_pos (by decide), opens_none hlt]; rfl
      · rw [if_neg hlt] at hn
        cases hn
        rw [if_neg (by decide), found_loop (by omega) t (by omega) (step := laws_FnQueue_l3 l (nextR l t) (nextR l t) (opens l t)) (fun _ _ => id rfl)]
        rfl
    · rw [if_neg hcode] at hos
      cases hos
      rw [if_pos (by simpa using hcode)]
  by_cases h3 : c3 = 0
  · obtain ⟨g, rfl⟩ := k3 h3
    rw [if_pos (by simpa using h3), mkOk_of (by omega) (by omega) (by omega), ck_true, Int.toNat_natCast, counts_loop (by omega) g hs, Option.bind_some]
    exact fin
  · rw [if_neg (by simpa using h3)]
    exact fin

end Go.Proofs.YtibabbjpkjmdeaaGreatDoor
