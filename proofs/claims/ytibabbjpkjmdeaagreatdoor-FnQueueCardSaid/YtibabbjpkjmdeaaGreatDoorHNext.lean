/- What typed forms say: which request comes first, and how slots are planned. No condition. -/
import Derived.Test.YtibabbjpkjmdeaaGreatDoorHPA
namespace Go.Proofs.YtibabbjpkjmdeaaGreatDoor
open Go Go.RowKit
set_option linter.unusedSimpArgs false
set_option linter.unusedVariables false

def beforeR (a b : Request) : Bool := if a.Priority = b.Priority then decide (a.To < b.To) else decide (b.Priority < a.Priority)

theorem Before_is (a b : Request) : spec_l22Before a b = some (beforeR a b) := by
  unfold spec_l22Before beforeR
  by_cases h : a.Priority = b.Priority
  · rw [if_neg (by simp [h]), if_pos h]
  · rw [if_pos (by simpa using h), if_neg h]

/-- The first one among the first n. -/
def nextTo (l : List Request) (t : Int) : Nat → Int
  | 0 => -1
  | i + 1 => if (openR (l.getD i default) t && (decide (nextTo l t i < 0) || beforeR (l.getD i default) (l.getD (nextTo l t i).toNat default))) = true then (i : Int) else nextTo l t i

theorem nextTo_in (l : List Request) (t : Int) : ∀ n : Nat, -1 ≤ nextTo l t n ∧ nextTo l t n < n ∧ (0 ≤ nextTo l t n → openR (l.getD (nextTo l t n).toNat default) t = true)
  | 0 => by simp [nextTo]
  | n + 1 => by
    obtain ⟨h1, h2, h3⟩ := nextTo_in l t n
    unfold nextTo
    split
    · rename_i h
      simp only [Bool.and_eq_true] at h
      exact ⟨by omega, by omega, fun _ => by simpa using h.1⟩
    · exact ⟨h1, by omega, h3⟩

theorem nextTo_best (l : List Request) (t : Int) : ∀ n i : Nat, i < n → openR (l.getD i default) t = true → 0 ≤ nextTo l t n ∧ (l.getD i default).Priority ≤ (l.getD (nextTo l t n).toNat default).Priority
  | 0, i, h, _ => by omega
  | n + 1, i, h, ho => by
    obtain ⟨b1, b2, b3⟩ := nextTo_in l t n
    unfold nextTo
    by_cases e : i = n
    · subst e
      split
      · exact ⟨by omega, by simp⟩
      · rename_i hc
        simp only [ho, Bool.true_and, Bool.or_eq_true, decide_eq_true_eq, not_or] at hc
        obtain ⟨c1, c2⟩ := hc
        refine ⟨by omega, ?_⟩
        unfold beforeR at c2
        split at c2
        · omega
        · simp only [decide_eq_true_eq] at c2; omega
    · obtain ⟨r1, r2⟩ := nextTo_best l t n i (by omega) ho
      split
      · rename_i hc
        simp only [Bool.and_eq_true, Bool.or_eq_true, decide_eq_true_eq] at hc
        refine ⟨by omega, ?_⟩
        rw [Int.toNat_natCast]
        rcases hc.2 with c | c
        · omega
        · unfold beforeR at c
          split at c
          · omega
          · simp only [decide_eq_true_eq] at c; omega
      · exact ⟨r1, r2⟩

def nextR (l : List Request) (t : Int) : Int := nextTo l t l.length

theorem next_spec {l : List Request} (hl : l.length ≤ 1000000) (t : Int) : spec_l22Next l t = some (nextR l t) := by
  unfold spec_l22Next
  have := while_up (step := spec_l22Next_l1 l t) (fun i => nextTo l t i) l.length (r := nextR l t) (fun i hi => by
    obtain ⟨b1, b2, b3⟩ := nextTo_in l t i
    simp only [spec_l22Next_l1, Int.ofNat_lt, hi, decide_true, if_true, ixOk_nat, ck_true, Int.toNat_natCast, (open_is _ _).1, Option.bind_some, Before_is, Option.isSome_some, Option.getD_some, Bool.or_true, wrap_nat1 (show i < 9223372036854775807 by omega)]
    have hb : (!(openR (l.getD i default) t && !decide (nextTo l t i < 0)) || ixOk (nextTo l t i) l.length) = true := by
      by_cases c : nextTo l t i < 0
      · simp [c]
      · rw [ixOk_of (by omega) (by omega), Bool.or_true]
    rw [hb, ck_true, nextTo]
    split <;> rfl) (by simp [spec_l22Next_l1, nextR])
  have z : nextTo l t 0 = -1 := rfl
  simp only [z] at this
  rw [this]; rfl

theorem next_impl {l : List Request} (hl : l.length ≤ 1000000) (t : Int) : impl_next l t = some (nextR l t) := by
  unfold impl_next
  have := while_up (step := impl_next_l1 l t l (l.length : Int)) (fun i => nextTo l t i) l.length (r := nextR l t) (fun i hi => by
    obtain ⟨b1, b2, b3⟩ := nextTo_in l t i
    simp only [impl_next_l1, Int.ofNat_lt, hi, decide_true, if_true, ixOk_nat, ck_true, Int.toNat_natCast, (open_is _ _).2, Option.bind_some, wrap_nat1 (show i < 9223372036854775807 by omega)]
    rw [nextTo]
    cases ho : openR (l.getD i default) t
    · rfl
    · simp only [Bool.not_true, Bool.false_eq_true, if_false, Bool.true_and]
      by_cases c : nextTo l t i < 0
      · simp [c, ck]
      · have ix : ixOk (nextTo l t i) l.length = true := ixOk_of (by omega) (by omega)
        simp only [ix, Bool.or_true, ck_true, c, decide_false, Bool.false_or]
        have e : (decide ((l.getD (nextTo l t i).toNat default).Priority < (l.getD i default).Priority) || (((l.getD i default).Priority == (l.getD (nextTo l t i).toNat default).Priority) && decide ((l.getD i default).To < (l.getD (nextTo l t i).toNat default).To))) = beforeR (l.getD i default) (l.getD (nextTo l t i).toNat default) := by
          unfold beforeR
          generalize l.getD i default = a
          generalize l.getD (nextTo l t i).toNat default = b
          split
          · rename_i h
            have : ¬ b.Priority < a.Priority := by omega
            simp [h]
          · rename_i h
            have : (a.Priority == b.Priority) = false := by simpa using h
            simp [this]
        rw [e]
        split <;> rfl) (by simp [impl_next_l1, nextR])
  have z : nextTo l t 0 = -1 := rfl
  simp only [z] at this
  rw [this]; rfl

theorem NextRequest_same {l : List Request} (hl : l.length ≤ 1000000) (t : Int) : impl_NextRequest l t = some (if codeR l t = 0 then (if nextR l t < 0 then (0, 3) else (nextR l t, 0)) else (0, codeR l t)) ∧ spec_NextRequest l t = some (if codeR l t = 0 then (if nextR l t < 0 then (0, 3) else (nextR l t, 0)) else (0, codeR l t)) := by
  unfold impl_NextRequest spec_NextRequest
  rw [timed_is (by omega), l22Code_is (by omega), Option.bind_some, Option.bind_some, next_impl hl, next_spec hl, Option.bind_some]
  by_cases hc : codeR l t = 0
  · have e : (!(codeR l t == 0)) = false := by simp [hc]
    rw [e, if_pos hc]
    by_cases h : nextR l t < 0 <;> simp [h]
  · have e : (!(codeR l t == 0)) = true := by simp [hc]
    rw [e, if_neg hc]
    simp

theorem open_loop2 {l : List Request} (hl : l.length ≤ 1000000) (t : Int) : whileE (spec_OpenRequests_l1 l t) (([] : List Int), 0) = some (opens l t) := by
  exact while_keep (step := spec_OpenRequests_l1 l t) (fun i => openR (l.getD i default) t) (fun i => (i : Int)) l.length (r := opens l t) (fun out i hi ho => by
    simp only [spec_OpenRequests_l1, (open_is _ _).1, Int.ofNat_lt, hi, decide_true, if_true, ixOk_nat, ck_true, Int.toNat_natCast, Option.bind_some, wrap_nat1 (show i < 9223372036854775807 by omega)]
    rw [appOk_of (by simp; omega), ck_true]
    split <;> rfl) (by simp [spec_OpenRequests_l1, opens, keptTo])

theorem OpenRequests_spec {l : List Request} (hl : l.length ≤ 1000000) (t : Int) : spec_OpenRequests l t = some (if codeR l t = 0 then (opens l t, 0) else ([], codeR l t)) := by
  unfold spec_OpenRequests
  rw [l22Code_is (by omega), Option.bind_some, open_loop2 hl]
  by_cases hc : codeR l t = 0
  · rw [if_neg (by simp [hc]), if_pos hc]; rfl
  · rw [if_pos (by simp [hc]), if_neg hc]

/-! ### Times that rise -/

theorem while_all_from {ρ : Type} {step : Int → Option (Int ⊕ ρ)} (p : Nat → Bool) (a n : Nat) (han : a ≤ n) (q : Bool) {yes no : ρ} (hq : q = true ↔ ∀ i, a ≤ i → i < n → p i = true)
    (hs : ∀ i : Nat, a ≤ i → i < n → step (i : Int) = some (if p i = true then .inl ((i + 1 : Nat) : Int) else .inr no)) (he : step (n : Int) = some (.inr yes)) : whileE step (a : Int) = some (if q = true then yes else no) := by
  have good : ∀ m i : Nat, a ≤ i → i + m = n → (∀ j, i ≤ j → j < n → p j = true) → whileE step (i : Int) = some yes := by
    intro m
    induction m with
    | zero => intro i _ hi _; obtain rfl : i = n := by omega
              exact whileE_done he
    | succ m ih =>
      intro i ha hi h
      rw [whileE_next (by rw [hs i ha (by omega), if_pos (h i (Nat.le_refl _) (by omega))])]
      exact ih (i + 1) (by omega) (by omega) fun j h1 h2 => h j (by omega) h2
  have bad : ∀ m i : Nat, a ≤ i → i + m = n → (∃ j, i ≤ j ∧ j < n ∧ p j = false) → whileE step (i : Int) = some no := by
    intro m
    induction m with
    | zero => rintro i _ hi ⟨j, h1, h2, _⟩; omega
    | succ m ih =>
      rintro i ha hi ⟨j, h1, h2, h3⟩
      by_cases hp : p i = true
      · rw [whileE_next (by rw [hs i ha (by omega), if_pos hp])]
        refine ih (i + 1) (by omega) (by omega) ⟨j, ?_, h2, h3⟩
        rcases Nat.lt_or_ge i j with c | c
        · omega
        · obtain rfl : i = j := by omega
          rw [h3] at hp; cases hp
      · exact whileE_done (by rw [hs i ha (by omega), if_neg hp])
  cases q with
  | true => exact good (n - a) a (Nat.le_refl _) (by omega) fun j h1 h => hq.1 rfl j h1 h
  | false =>
    refine bad (n - a) a (Nat.le_refl _) (by omega) ?_
    refine Classical.byContradiction fun hc => ?_
    have : false = true := hq.2 fun i h1 hi => by
      cases hp : p i with
      | true => rfl
      | false => exact absurd ⟨i, h1, hi, hp⟩ hc
    cases this

def upAt (s : List Int) (i : Nat) : Bool := decide (s.getD (i - 1) default < s.getD i default)
def riseB (s : List Int) : Bool := (List.range s.length).all fun i => timeB (s.getD i default) && (decide (i = 0) || upAt s i)

theorem Rises_is {s : List Int} (hl : s.length ≤ 1000000) : spec_l00Rises s 0 10000000 = some (riseB s) := by
  unfold spec_l00Rises
  rw [while_all (step := spec_l00Rises_l1 s 0 10000000) (fun i => timeB (s.getD i default) && (decide (i = 0) || upAt s i)) s.length (riseB s) (yes := .inl ()) (no := .inr false) (by unfold riseB; simp only [List.all_eq_true, List.mem_range]) (fun i hi => by
    simp only [spec_l00Rises_l1, Int.ofNat_lt, hi, decide_true, if_true, ixOk_nat, ck_true, Int.toNat_natCast, spec_l00In_is, Option.bind_some, wrap_nat1 (show i < 9223372036854775807 by omega)]
    have et : (decide (0 ≤ s.getD i default) && decide (s.getD i default ≤ 10000000)) = timeB (s.getD i default) := rfl
    rw [et]
    by_cases h0 : i = 0
    · subst h0
      cases timeB (s.getD 0 default) <;> simp [ck]
    · have w1 : IntKind.i64.wrap ((i : Int) - 1) = ((i - 1 : Nat) : Int) := by rw [wrap_i64 (by omega) (by omega)]; omega
      have ok1 : ixOk ((i - 1 : Nat) : Int) s.length = true := by rw [ixOk_nat]; simp; omega
      have e0 : decide ((0 : Int) < (i : Int)) = true := by simp; omega
      have e1 : decide (i = 0) = false := by simpa using h0
      rw [w1, ok1, Bool.or_true, ck_true, e0, e1, Int.toNat_natCast]
      have e2 : decide (s.getD i default ≤ s.getD (i - 1) default) = !upAt s i := by
        unfold upAt; rw [Bool.eq_iff_iff]; simp only [decide_eq_true_eq, Bool.not_eq_true', decide_eq_false_iff_not, Int.not_lt]
      rw [e2]
      cases timeB (s.getD i default) <;> cases upAt s i <;> rfl) (by simp [spec_l00Rises_l1])]
  cases riseB s <;> rfl

theorem allIn_is {s : List Int} (hl : s.length ≤ 1000000) : impl_allIn s 0 10000000 = some (s.all timeB) := by
  unfold impl_allIn slices_ContainsFunc_int64_int64__impl_allIn_c1 slices_IndexFunc_int64_int64__impl_allIn_c1
  rw [while_find (step := slices_IndexFunc_int64_int64__impl_allIn_c1_l1 s 0 10000000 (s.length : Int)) (fun i => !timeB (s.getD i default)) (fun i => (i : Int)) s.length (fun i hi => by
    simp only [slices_IndexFunc_int64_int64__impl_allIn_c1_l1, impl_allIn_c1, Int.ofNat_lt, hi, decide_true, if_true, ixOk_nat, ck_true, Int.toNat_natCast, impl_in_is, Option.bind_some, wrap_nat1 (show i < 9223372036854775807 by omega)]
    have et : (decide (0 ≤ s.getD i default) && decide (s.getD i default ≤ 10000000)) = timeB (s.getD i default) := rfl
    rw [et]
    cases timeB (s.getD i default) <;> rfl) (by simp [slices_IndexFunc_int64_int64__impl_allIn_c1_l1])]
  have hf := find_any s (fun x => !timeB x)
  have hn : (!s.all timeB) = s.any (fun x => !timeB x) := by simp [List.any_eq_not_all_not]
  have hs : s.all timeB = !((List.range s.length).find? fun i => !timeB (s.getD i default)).isSome := by rw [hf, ← hn, Bool.not_not]
  rw [hs]
  simp only [Option.bind_some]
  cases hc : (List.range s.length).find? (fun i => !timeB (s.getD i default)) with
  | none => simp
  | some j =>
    have : (0 : Int) ≤ (j : Int) := by omega
    simp [this]

theorem areTimes_is {s : List Int} (hl : s.length ≤ 1000000) : impl_areTimes s 100 = some (decide (s.length ≤ 100) && riseB s) := by
  unfold impl_areTimes
  rw [allIn_is hl]
  simp only [Option.isSome_some, Option.getD_some, Bool.or_true, ck_true]
  by_cases h1 : s.length ≤ 100
  · have e1 : decide ((100 : Int) < (s.length : Int)) = false := by simp; omega
    have e2 : decide (s.length ≤ 100) = true := by simpa using h1
    rw [e1, e2]
    by_cases ha : s.all timeB = true
    · rw [ha, if_neg (by simp)]
      have h01 : whileE (impl_areTimes_l1 s) ((1 : Nat) : Int) = some (if riseB s = true then .inl () else .inr false) := by
        refine while_all_from (step := impl_areTimes_l1 s) (upAt s) 1 (max 1 s.length) (by omega) (riseB s) ?_ (fun i h hi => ?_) ?_
        · unfold riseB
          simp only [List.all_eq_true, List.mem_range, Bool.and_eq_true, Bool.or_eq_true, decide_eq_true_eq]
          constructor
          · intro h i i1 i2
            rcases (h i (by omega)).2 with c | c
            · omega
            · exact c
          · intro h i hi
            refine ⟨?_, ?_⟩
            · rw [List.all_eq_true] at ha; exact ha _ (getD_mem hi default)
            · rcases Nat.eq_zero_or_pos i with c | c
              · exact .inl c
              · exact .inr (h i (by omega) (by omega))
        · have hi' : i < s.length := by omega
          have w1 : IntKind.i64.wrap ((i : Int) - 1) = ((i - 1 : Nat) : Int) := by rw [wrap_i64 (by omega) (by omega)]; omega
          have ok1 : ixOk ((i - 1 : Nat) : Int) s.length = true := by rw [ixOk_nat]; simp; omega
          simp only [impl_areTimes_l1, Int.ofNat_lt, hi', decide_true, if_true, ixOk_nat, ck_true, Int.toNat_natCast, w1, show (decide (i - 1 < s.length)) = true by simp; omega, wrap_nat1 (show i < 9223372036854775807 by omega)]
          have e3 : decide (s.getD i default ≤ s.getD (i - 1) default) = !upAt s i := by
            unfold upAt; rw [Bool.eq_iff_iff]; simp only [decide_eq_true_eq, Bool.not_eq_true', decide_eq_false_iff_not, Int.not_lt]
          rw [e3]
          cases upAt s i <;> rfl
        · have : ¬ ((max 1 s.length : Nat) : Int) < (s.length : Int) := by omega
          simp [impl_areTimes_l1, this]
      have h01' : whileE (impl_areTimes_l1 s) 1 = some (if riseB s = true then .inl () else .inr false) := h01
      rw [h01', Option.bind_some]
      cases riseB s <;> rfl
    · have hr : riseB s = false := by
        cases hr : riseB s with
        | false => rfl
        | true =>
          refine absurd ?_ ha
          rw [List.all_eq_true]
          intro x hx
          obtain ⟨i, hi, rfl⟩ := List.getElem_of_mem hx
          unfold riseB at hr
          simp only [List.all_eq_true, List.mem_range, Bool.and_eq_true] at hr
          have := (hr i hi).1
          rw [getD_lt hi] at this; exact this
      have ha' : s.all timeB = false := by simpa using ha
      rw [ha', hr, if_pos (by simp)]; rfl
  · have e1 : decide ((100 : Int) < (s.length : Int)) = true := by simp; omega
    have e2 : decide (s.length ≤ 100) = false := by simpa using h1
    rw [e1, e2, if_pos (by simp)]; rfl

/-! ### Slots are planned -/

def more1 (x : Request) : Request := { x with Done := x.Done + 1 }

def planTo (l : List Request) (s : List Int) : Nat → List Request × List Int
  | 0 => (l, [])
  | i + 1 => if 0 ≤ nextR (planTo l s i).1 (s.getD i default) then
      ((planTo l s i).1.set (nextR (planTo l s i).1 (s.getD i default)).toNat (more1 ((planTo l s i).1.getD (nextR (planTo l s i).1 (s.getD i default)).toNat default)), (planTo l s i).2 ++ [nextR (planTo l s i).1 (s.getD i default)])
    else ((planTo l s i).1, (planTo l s i).2 ++ [nextR (planTo l s i).1 (s.getD i default)])

theorem more1_one {x : Request} {t : Int} (h : oneR x = true) (ho : openR x t = true) : oneR (more1 x) = true := by
  have hd : x.Done < x.Wanted := by
    unfold openR at ho
    simp only [Bool.and_eq_true, decide_eq_true_eq] at ho
    exact ho.2
  obtain ⟨_, _, h3, _⟩ := oneR_in h
  have e : oneR (more1 x) = (((((nameB x.Star && (decide (0 ≤ x.From) && decide (x.From ≤ 10000000))) && (decide (x.From ≤ x.To) && decide (x.To ≤ 10000000))) && (decide (1 ≤ x.Wanted) && decide (x.Wanted ≤ 100))) && (decide (0 ≤ x.Done + 1) && decide (x.Done + 1 ≤ x.Wanted))) && (decide (1 ≤ x.Priority) && decide (x.Priority ≤ 5))) := rfl
  rw [e]
  unfold oneR at h
  simp only [Bool.and_eq_true, decide_eq_true_eq] at h ⊢
  obtain ⟨⟨⟨⟨⟨a1, a2⟩, a3⟩, a4⟩, a5⟩, a6⟩ := h
  exact ⟨⟨⟨⟨⟨a1, a2⟩, a3⟩, a4⟩, by omega, by omega⟩, a6⟩

theorem set_getD {α : Type} [Inhabited α] {l : List α} {i : Nat} (hi : i < l.length) (x : α) (j : Nat) : (l.set i x).getD j default = if j = i then x else l.getD j default := by
  rw [List.getD_eq_getElem?_getD, List.getD_eq_getElem?_getD, List.getElem?_set]
  by_cases h : j = i
  · subst h; simp [hi]
  · rw [if_neg (fun c => h c.symm), if_neg h]

structure PlanOk (l : List Request) (s : List Int) (i : Nat) : Prop where
  len : (planTo l s i).1.length = l.length
  good : goodR (planTo l s i).1 = true
  out : (planTo l s i).2.length = i
  same : ∀ j, ((planTo l s i).1.getD j default).From = (l.getD j default).From ∧ ((planTo l s i).1.getD j default).To = (l.getD j default).To ∧ ((planTo l s i).1.getD j default).Wanted = (l.getD j default).Wanted

theorem plan_ok {l : List Request} (hg : goodR l = true) (s : List Int) : ∀ i, PlanOk l s i
  | 0 => ⟨rfl, hg, rfl, fun j => ⟨rfl, rfl, rfl⟩⟩
  | i + 1 => by
    obtain ⟨h1, h2, h3, h4⟩ := plan_ok hg s i
    obtain ⟨n1, n2, n3⟩ := nextTo_in (planTo l s i).1 (s.getD i default) (planTo l s i).1.length
    by_cases c : 0 ≤ nextR (planTo l s i).1 (s.getD i default)
    · have hk : (nextR (planTo l s i).1 (s.getD i default)).toNat < (planTo l s i).1.length := by unfold nextR at c ⊢; omega
      refine ⟨?_, ?_, ?_, fun j => ?_⟩
      · rw [planTo, if_pos c]; simpa using h1
      · rw [planTo, if_pos c]
        refine goodR_iff.2 fun j hj => ?_
        rw [set_getD hk]
        split
        · exact more1_one (goodR_at h2 hk) (n3 c)
        · exact goodR_at h2 (by simpa using hj)
      · rw [planTo, if_pos c]; simp [h3]
      · rw [planTo, if_pos c]
        simp only
        rw [set_getD hk]
        split
        · rename_i e; subst e; exact h4 _
        · exact h4 j
    · refine ⟨?_, ?_, ?_, fun j => ?_⟩
      · rw [planTo, if_neg c]; exact h1
      · rw [planTo, if_neg c]; exact h2
      · rw [planTo, if_neg c]; simp [h3]
      · rw [planTo, if_neg c]; exact h4 j

theorem plan_step {l : List Request} (hl : l.length ≤ 1000000) (hg : goodR l = true) (s : List Int) (i : Nat) (hi : i < 1000000) :
    spec_l22Next (planTo l s i).1 (s.getD i default) = some (nextR (planTo l s i).1 (s.getD i default)) ∧ impl_next (planTo l s i).1 (s.getD i default) = some (nextR (planTo l s i).1 (s.getD i default)) ∧
    (0 ≤ nextR (planTo l s i).1 (s.getD i default) → ixOk (nextR (planTo l s i).1 (s.getD i default)) (planTo l s i).1.length = true) ∧
    (∀ x : Int, appOk ((planTo l s i).2.length + ([x] : List Int).length) 8 = true) ∧
    (0 ≤ nextR (planTo l s i).1 (s.getD i default) → IntKind.i64.wrap (((planTo l s i).1.getD (nextR (planTo l s i).1 (s.getD i default)).toNat default).Done + 1) = ((planTo l s i).1.getD (nextR (planTo l s i).1 (s.getD i default)).toNat default).Done + 1) := by
  obtain ⟨h1, h2, h3, h4⟩ := plan_ok hg s i
  obtain ⟨n1, n2, n3⟩ := nextTo_in (planTo l s i).1 (s.getD i default) (planTo l s i).1.length
  refine ⟨next_spec (by omega) _, next_impl (by omega) _, fun c => ixOk_of c (by unfold nextR; omega), fun x => appOk_of (by simp; omega), fun c => ?_⟩
  have hk : (nextR (planTo l s i).1 (s.getD i default)).toNat < (planTo l s i).1.length := by unfold nextR at c ⊢; omega
  obtain ⟨_, w, d, _⟩ := oneR_in (goodR_at h2 hk)
  exact wrap_i64 (by omega) (by omega)

theorem plan_loops {l : List Request} (hl : l.length ≤ 1000000) (hg : goodR l = true) {s : List Int} (hs : s.length ≤ 1000) :
    whileE (impl_PlanSlots_l1 s (s.length : Int)) (l, ([] : List Int), 0) = some (planTo l s s.length).2 ∧ whileE (spec_PlanSlots_l1 s) (l, ([] : List Int), 0) = some (planTo l s s.length).2 := by
  constructor
  · exact whileE_run (step := impl_PlanSlots_l1 s (s.length : Int)) (fun i => ((planTo l s i).1, (planTo l s i).2, (i : Int))) s.length (fun i hi => by
      obtain ⟨p1, p2, p3, p4, p5⟩ := plan_step hl hg s i (by omega)
      simp only [impl_PlanSlots_l1, Int.ofNat_lt, hi, decide_true, if_true, ixOk_nat, ck_true, Int.toNat_natCast, p2, Option.bind_some, wrap_nat1 (show i < 9223372036854775807 by omega), p4]
      by_cases c : 0 ≤ nextR (planTo l s i).1 (s.getD i default)
      · simp only [c, decide_true, if_true, p3 c, ck_true, p5 c, planTo, more1]
      · simp only [c, decide_false, Bool.false_eq_true, if_false, planTo]) (by simp [impl_PlanSlots_l1])
  · exact whileE_run (step := spec_PlanSlots_l1 s) (fun i => ((planTo l s i).1, (planTo l s i).2, (i : Int))) s.length (fun i hi => by
      obtain ⟨p1, p2, p3, p4, p5⟩ := plan_step hl hg s i (by omega)
      simp only [spec_PlanSlots_l1, Int.ofNat_lt, hi, decide_true, if_true, ixOk_nat, ck_true, Int.toNat_natCast, p1, Option.bind_some, wrap_nat1 (show i < 9223372036854775807 by omega), p4]
      by_cases c : 0 ≤ nextR (planTo l s i).1 (s.getD i default)
      · simp only [c, decide_true, if_true, p3 c, ck_true, p5 c, planTo, more1]
      · simp only [c, decide_false, Bool.false_eq_true, if_false, planTo]) (by simp [spec_PlanSlots_l1])

theorem PlanSlots_same {l : List Request} {s : List Int} (hl : l.length ≤ 1000000) (hs : s.length ≤ 1000) : ∃ o c, o.length ≤ 1000 ∧ impl_PlanSlots l s = some (o, c) ∧ spec_PlanSlots l s = some (o, c) ∧ (c = 0 → goodR l = true ∧ o = (planTo l s s.length).2) := by
  have ap : appOk (([] : List Request).length + l.length) 56 = true := appOk_of (by simp; omega)
  unfold impl_PlanSlots spec_PlanSlots
  rw [ValidRequests_is (by omega), l22Ok_is (by omega), Option.bind_some, Option.bind_some, areTimes_is (by omega), Option.bind_some, Rises_is (by omega), copyR_is hl]
  simp only [Option.isSome_some, Option.getD_some, Bool.or_true, ck_true, ap, List.nil_append, Option.bind_some]
  cases hv : validR l
  · exact ⟨[], 1, by simp, rfl, rfl, fun h => by cases h⟩
  · have hg : goodR l = true := by unfold validR at hv; simp only [Bool.and_eq_true] at hv; exact hv.1
    obtain ⟨e1, e2⟩ := plan_loops hl hg hs
    simp only [Bool.not_true, Bool.false_eq_true, if_false, e1, e2, Option.bind_some]
    have e3 : decide ((100 : Int) < (s.length : Int)) = !decide (s.length ≤ 100) := by rw [← decide_not]; congr 1; simp; omega
    rw [e3]
    cases h1 : decide (s.length ≤ 100)
    · exact ⟨[], 2, by simp, rfl, rfl, fun h => by cases h⟩
    · cases h2 : riseB s
      · exact ⟨[], 2, by simp, rfl, rfl, fun h => by cases h⟩
      · exact ⟨_, 0, by rw [(plan_ok hg s s.length).out]; exact hs, rfl, rfl, fun _ => ⟨hg, rfl⟩⟩

end Go.Proofs.YtibabbjpkjmdeaaGreatDoor
