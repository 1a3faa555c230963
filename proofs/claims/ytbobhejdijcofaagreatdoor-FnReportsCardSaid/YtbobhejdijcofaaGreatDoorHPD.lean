/- Plain lemmas, several texts in one. No condition. -/
import Derived.Test.YtbobhejdijcofaaGreatDoorHPB
import Derived.Test.YtbobhejdijcofaaGreatDoorHPA
import Derived.Test.YtbobhejdijcofaaGreatDoorEngSM
/- What typed forms say: the row of a star in a report. No condition. -/
namespace Go.Proofs.YtbobhejdijcofaaGreatDoor
open Go Go.RowKit
set_option linter.unusedSimpArgs false
set_option linter.unusedVariables false

theorem kept_map {α β : Type} (l : List α) (p : α → Bool) (f : α → β) (d : α) : keptTo (α := β) (fun i => p (l.getD i d)) (fun i => f (l.getD i d)) l.length = (l.filter p).map f := by
  have e : (List.range l.length).map (fun i => l.getD i d) = l := by
    apply List.ext_getElem
    · simp
    · intro i h1 h2
      rw [List.getElem_map, List.getElem_range, getD_lt h2]
  unfold keptTo
  conv => rhs; rw [← e]
  rw [List.filter_map, List.map_map]
  rfl

theorem kept_self {α : Type} (l : List α) (p : α → Bool) (d : α) : keptTo (α := α) (fun i => p (l.getD i d)) (fun i => l.getD i d) l.length = l.filter p := by
  have := kept_map l p id d
  rw [List.map_id] at this
  exact this

def InM (n : Int) : Prop := -2000 ≤ n ∧ n ≤ 20000
def ownE (l : List Estimate) (star : List UInt8) : List Estimate := l.filter fun e => e.Star == star
def magsE (l : List Estimate) : List Int := (l.filter fun e => !e.Fainter).map (·.Mag)
def rowT (l : List Estimate) (star : List UInt8) : List (List UInt8) :=
  if (magsE (ownE l star)).length = 0 then [star, Lib.itoa ((ownE l star).length : Int), [45], [45]]
  else [star, Lib.itoa ((ownE l star).length : Int), magT (Lib.minOf (magsE (ownE l star))), magT (Lib.maxOf (magsE (ownE l star)))]

theorem Min_is (a b : Int) : spec_l00Min a b = some (min a b) := by
  unfold spec_l00Min
  by_cases h : a < b
  · rw [if_pos (decide_eq_true h)]; congr 1; omega
  · rw [decide_eq_false h, if_neg Bool.false_ne_true]; congr 1; omega
theorem Max_is (a b : Int) : spec_l00Max a b = some (max a b) := by
  unfold spec_l00Max
  by_cases h : b < a
  · rw [if_pos (decide_eq_true h)]; congr 1; omega
  · rw [decide_eq_false h, if_neg Bool.false_ne_true]; congr 1; omega

theorem fold_in {f : Int → Int → Int} (hf : ∀ a b, InM a → InM b → InM (f a b)) : ∀ (l : List Int) (a : Int), InM a → (∀ x ∈ l, InM x) → InM (l.foldl f a)
  | [], a, h, _ => h
  | x :: r, a, h, hx => fold_in hf r (f a x) (hf a x h (hx x List.mem_cons_self)) fun y hy => hx y (List.mem_cons_of_mem _ hy)

theorem min_in {l : List Int} (h0 : 0 < l.length) (h : ∀ x ∈ l, InM x) : InM (Lib.minOf l) ∧ InM (Lib.maxOf l) := by
  cases l with
  | nil => simp at h0
  | cons x r =>
    have hx := h x List.mem_cons_self
    exact ⟨fold_in (fun a b ha hb => by unfold InM at *; omega) _ _ hx h, fold_in (fun a b ha hb => by unfold InM at *; omega) _ _ hx h⟩

theorem allIn_yes {l : List Int} (hl : l.length ≤ 1000000) (h : ∀ x ∈ l, InM x) : impl_allIn l (-2000) 20000 = some true := by
  unfold impl_allIn slices_ContainsFunc_int64_int64__impl_allIn_c1 slices_IndexFunc_int64_int64__impl_allIn_c1
  rw [while_all (step := slices_IndexFunc_int64_int64__impl_allIn_c1_l1 l (-2000) 20000 (l.length : Int)) (fun i => true) l.length true (yes := .inl ()) (no := .inr 0) (by simp) (fun i hi => by
    have := h _ (getD_mem hi default)
    have e : impl_allIn_c1 (l.getD i default) (-2000) 20000 = some false := by
      unfold impl_allIn_c1 impl_in
      rw [decide_eq_true this.1, decide_eq_true this.2]; rfl
    simp only [slices_IndexFunc_int64_int64__impl_allIn_c1_l1, Int.ofNat_lt, hi, decide_true, if_true, ixOk_nat, ck_true, Int.toNat_natCast, wrap_nat1 (show i < 9223372036854775807 by omega), e, Option.bind_some, Bool.false_eq_true, if_false]) (by simp [slices_IndexFunc_int64_int64__impl_allIn_c1_l1])]
  rfl

theorem Range_is {l : List Int} (hl : l.length ≤ 100) (h : ∀ x ∈ l, InM x) : impl_RangeOfMags l = some (if l.length = 0 then (0, 0, 3) else (Lib.minOf l, Lib.maxOf l, 0)) := by
  unfold impl_RangeOfMags impl_someMags impl_areMags
  rw [allIn_yes (by omega) h]
  have e : decide ((l.length : Int) ≤ 100) = true := decide_eq_true (by omega)
  simp only [e, Option.isSome_some, Bool.or_true, ck_true, Option.getD_some, Bool.and_self, Option.bind_some, Bool.not_true, Bool.false_eq_true, if_false]
  by_cases h0 : l.length = 0
  · have e0 : ((l.length : Int) == 0) = true := by simp [h0]
    rw [e0, if_pos h0]; rfl
  · have e0 : ((l.length : Int) == 0) = false := by simp [h0]
    rw [e0, if_neg h0]
    unfold hMinI hMaxI
    have hm : mmOk l = true := by unfold mmOk; rw [decide_eq_true (by omega), decide_eq_true (by omega)]; rfl
    rw [if_pos hm, if_pos hm]; rfl

theorem mags_in {l : List Estimate} (h : ∀ e ∈ l, InM e.Mag) : ∀ x ∈ magsE l, InM x := fun x hx => by
  obtain ⟨e, he, rfl⟩ := List.mem_map.1 hx
  exact h e (List.mem_filter.1 he).1

theorem own_in {l : List Estimate} (h : ∀ e ∈ l, InM e.Mag) (star : List UInt8) : ∀ e ∈ ownE l star, InM e.Mag := fun e he => h e (List.mem_filter.1 he).1

theorem own_len (l : List Estimate) (star : List UInt8) : (ownE l star).length ≤ l.length ∧ (magsE (ownE l star)).length ≤ l.length := by
  have h1 : (ownE l star).length ≤ l.length := List.length_filter_le _ _
  have h2 : (magsE (ownE l star)).length ≤ (ownE l star).length := by unfold magsE; rw [List.length_map]; exact List.length_filter_le _ _
  exact ⟨h1, by omega⟩

theorem starRow_impl {l : List Estimate} (hl : l.length ≤ 100) (h : ∀ e ∈ l, InM e.Mag) (star : List UInt8) : impl_starRow l star = some (rowT l star) := by
  unfold impl_starRow impl_chosen_impl_Estimate__impl_starRow_c1
  obtain ⟨o1, o2⟩ := own_len l star
  have e1 := while_keep (step := impl_chosen_impl_Estimate__impl_starRow_c1_l1 star l (l.length : Int)) (fun i => (l.getD i default).Star == star) (fun i => l.getD i default) l.length (r := ownE l star) (fun out i hi ho => by
    simp only [impl_chosen_impl_Estimate__impl_starRow_c1_l1, impl_starRow_c1, ixOk_nat, hi, decide_true, ck_true, Int.ofNat_lt, if_true, Int.toNat_natCast, wrap_nat1 (show i < 9223372036854775807 by omega), Option.bind_some,
      appOk_of (show (out.length + ([l.getD i default] : List Estimate).length) * 56 ≤ 140737488355328 by simp; omega)]
    cases ((l.getD i default).Star == star) <;> rfl) (by
    have := kept_self l (fun e => e.Star == star) default
    rw [this]
    simp [impl_chosen_impl_Estimate__impl_starRow_c1_l1, ownE])
  rw [e1]
  simp only [Option.bind_some]
  have hi := own_in h star
  unfold rowT
  generalize ownE l star = own at o1 o2 hi ⊢
  have e2 := while_keep (step := impl_starRow_l1 star own (own.length : Int)) (fun i => !(own.getD i default).Fainter) (fun i => (own.getD i default).Mag) own.length (r := magsE own) (fun out i hi ho => by
    simp only [impl_starRow_l1, ixOk_nat, hi, decide_true, ck_true, Int.ofNat_lt, if_true, Int.toNat_natCast, wrap_nat1 (show i < 9223372036854775807 by omega), Option.bind_some,
      appOk_of (show (out.length + ([(own.getD i default).Mag] : List Int).length) * 8 ≤ 140737488355328 by simp; omega)]
    cases (own.getD i default).Fainter <;> rfl) (by
    have := kept_map own (fun e => !e.Fainter) (·.Mag) default
    rw [this]
    simp [impl_starRow_l1, magsE])
  rw [e2]
  simp only [Option.bind_some]
  rw [Range_is (by omega) (mags_in hi)]
  simp only [Option.bind_some, impl_count_impl_Estimate]
  have hd : impl_Decimal (own.length : Int) = some (Lib.itoa (own.length : Int)) := Decimal_is ⟨by omega, by omega⟩
  by_cases h0 : (magsE own).length = 0
  · rw [if_pos h0, if_pos h0, hd]; rfl
  · rw [if_neg h0, if_neg h0, hd]
    obtain ⟨m1, m2⟩ := min_in (l := magsE own) (by omega) (mags_in hi)
    simp only [beq_self_eq_true, Bool.not_true, Bool.false_eq_true, if_false, Option.bind_some]
    rw [MagText_is m1.1 m1.2, MagText_is m2.1 m2.2]; rfl

theorem own_step (l : List Estimate) (star : List UInt8) {i : Nat} (hi : i < l.length) : ownE (l.take (i + 1)) star = if ((l.getD i default).Star == star) = true then ownE (l.take i) star ++ [l.getD i default] else ownE (l.take i) star := by
  unfold ownE
  rw [List.take_add_one, List.getElem?_eq_getElem hi, getD_lt hi, List.filter_append]
  cases h : (l[i].Star == star) <;> simp [h]

theorem mags_step (l : List Estimate) (e : Estimate) : magsE (l ++ [e]) = if (!e.Fainter) = true then magsE l ++ [e.Mag] else magsE l := by
  unfold magsE
  rw [List.filter_append]
  cases h : e.Fainter <;> simp [h]

theorem star_loop {l : List Estimate} (hl : l.length ≤ 100) (star : List UInt8) : whileE (spec_l24Star_l1 l star) (0, ([] : List Int), 0) = some (((ownE l star).length : Int), magsE (ownE l star)) := by
  obtain ⟨y, hy, hq⟩ := while_post (step := spec_l24Star_l1 l star) (fun s => ∃ i : Nat, s.2.2 = (i : Int) ∧ i ≤ l.length ∧ s.1 = ((ownE (l.take i) star).length : Int) ∧ s.2.1 = magsE (ownE (l.take i) star))
    (fun y => y = (((ownE l star).length : Int), magsE (ownE l star))) (fun s => l.length - s.2.2.toNat) (by
    rintro ⟨c, ms, ii⟩ ⟨i, h1, hi, h2, h3⟩
    simp only at h1 h2 h3
    subst h1 h2 h3
    by_cases h : i < l.length
    · left
      have hs := own_step l star h
      have hl1 : (ownE (l.take i) star).length ≤ 100 := by have := own_len (l.take i) star; simp at this; omega
      have hl2 : (magsE (ownE (l.take i) star)).length ≤ 100 := by have := own_len (l.take i) star; simp at this; omega
      simp only [spec_l24Star_l1, ixOk_nat, h, decide_true, ck_true, Int.ofNat_lt, if_true, Int.toNat_natCast, wrap_nat1 (show i < 9223372036854775807 by omega), wrap_nat1 (show (ownE (l.take i) star).length < 9223372036854775807 by omega)]
      cases hc : ((l.getD i default).Star == star)
      · rw [hc, if_neg Bool.false_ne_true] at hs
        rw [if_neg Bool.false_ne_true]
        exact ⟨_, rfl, ⟨i + 1, rfl, by omega, by rw [hs], by rw [hs]⟩, by simp only [Int.toNat_natCast]; omega⟩
      · rw [hc, if_pos rfl] at hs
        rw [if_pos rfl]
        have hm := mags_step (ownE (l.take i) star) (l.getD i default)
        rw [← hs] at hm
        cases hf : (l.getD i default).Fainter
        · rw [hf] at hm
          rw [if_pos (by rfl)] at hm
          rw [if_pos (by rfl), appOk_of (by simp; omega), ck_true]
          exact ⟨_, rfl, ⟨i + 1, rfl, by omega, by rw [hs]; simp, by rw [hm]⟩, by simp only [Int.toNat_natCast]; omega⟩
        · rw [hf] at hm
          rw [if_neg (by simp)] at hm
          rw [if_neg (by simp)]
          exact ⟨_, rfl, ⟨i + 1, rfl, by omega, by rw [hs]; simp, by rw [hm]⟩, by simp only [Int.toNat_natCast]; omega⟩
    · right
      obtain rfl : i = l.length := by omega
      rw [List.take_length]
      exact ⟨_, by simp [spec_l24Star_l1], rfl⟩) (s := (0, ([] : List Int), 0)) ⟨0, rfl, by omega, rfl, rfl⟩
  rw [hy, hq]

theorem ends_loop (star : List UInt8) (c : Int) {ms : List Int} (hl : ms.length ≤ 100) (h0 : 0 < ms.length) : whileE (spec_l24Star_l2 star c ms) (ms.getD 0 default, ms.getD 0 default, 1) = some (Lib.minOf ms, Lib.maxOf ms) := by
  have hd : ms.headD 0 = ms.getD 0 default := by cases ms with | nil => simp at h0 | cons => rfl
  obtain ⟨y, hy, hq⟩ := while_post (step := spec_l24Star_l2 star c ms) (fun s => ∃ i : Nat, s.2.2 = (i : Int) ∧ 1 ≤ i ∧ i ≤ ms.length ∧ s.1 = (ms.take i).foldl min (ms.headD 0) ∧ s.2.1 = (ms.take i).foldl max (ms.headD 0))
    (fun y => y = (Lib.minOf ms, Lib.maxOf ms)) (fun s => ms.length - s.2.2.toNat) (by
    rintro ⟨a, b, ii⟩ ⟨i, h1, hi1, hi, h2, h3⟩
    simp only at h1 h2 h3
    subst h1
    by_cases h : i < ms.length
    · left
      simp only [spec_l24Star_l2, ixOk_nat, h, decide_true, ck_true, Int.ofNat_lt, if_true, Int.toNat_natCast, wrap_nat1 (show i < 9223372036854775807 by omega), Min_is, Max_is, Option.bind_some]
      refine ⟨_, rfl, ⟨i + 1, rfl, by omega, by omega, ?_, ?_⟩, by simp only [Int.toNat_natCast]; omega⟩
      · show min a _ = _
        rw [List.take_add_one, List.getElem?_eq_getElem h, getD_lt h, List.foldl_append, ← h2]; rfl
      · show max b _ = _
        rw [List.take_add_one, List.getElem?_eq_getElem h, getD_lt h, List.foldl_append, ← h3]; rfl
    · right
      obtain rfl : i = ms.length := by omega
      rw [List.take_length] at h2 h3
      refine ⟨(a, b), by simp [spec_l24Star_l2], ?_⟩
      rw [h2, h3]; rfl) (s := (ms.getD 0 default, ms.getD 0 default, 1)) ⟨1, rfl, Nat.le_refl _, h0, by
        cases ms with
        | nil => simp at h0
        | cons x r => show x = min x x; omega, by
        cases ms with
        | nil => simp at h0
        | cons x r => show x = max x x; omega⟩
  rw [hy, hq]

theorem starRow_spec {l : List Estimate} (hl : l.length ≤ 100) (h : ∀ e ∈ l, InM e.Mag) (star : List UInt8) : spec_l24Star l star = some (rowT l star) := by
  unfold spec_l24Star
  rw [star_loop hl]
  obtain ⟨o1, o2⟩ := own_len l star
  have hi := own_in h star
  unfold rowT
  generalize ownE l star = own at o1 o2 hi ⊢
  simp only [Option.bind_some]
  have hd : spec_l01Dec (own.length : Int) = some (Lib.itoa (own.length : Int)) := l01Dec_is ⟨by omega, by omega⟩
  by_cases h0 : (magsE own).length = 0
  · have e0 : (((magsE own).length : Int) == 0) = true := by simp [h0]
    rw [e0, if_pos rfl, if_pos h0, hd]; rfl
  · have e0 : (((magsE own).length : Int) == 0) = false := by simp [h0]
    rw [e0, if_neg Bool.false_ne_true, if_neg h0, ixOk_of (by omega) (by omega), ck_true, ends_loop star _ (by omega) (by omega)]
    obtain ⟨m1, m2⟩ := min_in (l := magsE own) (by omega) (mags_in hi)
    simp only [Option.bind_some]
    rw [hd, l02Text_is m1.1 m1.2, l02Text_is m2.1 m2.2]; rfl

end Go.Proofs.YtbobhejdijcofaaGreatDoor

/- What typed forms say: plots. No condition. -/
namespace Go.Proofs.YtbobhejdijcofaaGreatDoor
open Go Go.RowKit
set_option linter.unusedSimpArgs false
set_option linter.unusedVariables false

theorem ValidTime_is (n : Int) : impl_ValidTime n = some (decide (0 ≤ n) && decide (n ≤ 10000000)) := id rfl
theorem ValidMag_is (n : Int) : impl_ValidMag n = some (decide (-2000 ≤ n) && decide (n ≤ 20000)) := id rfl

theorem Valid_step (c : List Point) : impl_ValidCurve_l1 c c (c.length : Int) = spec_l08Ok_l1 c := by
  funext i
  simp only [impl_ValidCurve_l1, spec_l08Ok_l1, ValidTime_is, ValidMag_is, l06Time_is, l02Mag_is]

theorem ValidCurve_is {c : List Point} (hl : c.length ≤ 1099511627776) : impl_ValidCurve c = some (goodP c && decide (c.length ≤ 100)) := by
  unfold impl_ValidCurve
  by_cases h : 100 < (c.length : Int)
  · have e : decide (c.length ≤ 100) = false := by simp; omega
    simp [h, e]
  · have e : decide (c.length ≤ 100) = true := by simp; omega
    simp only [h, decide_false, Bool.false_eq_true, if_false, Valid_step]
    rw [while_all (step := spec_l08Ok_l1 c) (okP c) c.length (goodP c) (yes := .inl ()) (no := .inr false) (by unfold goodP; simp) (fun i hi => l08_step hl hi) (by simp [spec_l08Ok_l1])]
    simp only [Option.bind_some, ite_b, e]
    cases goodP c <;> rfl

/-! ### Blanks -/

theorem blanks_loop : ∀ (n : Nat) (out : List UInt8), out.length + n ≤ 1000000 → whileE spec_l24Blanks_l1 ((n : Int), out) = some (out ++ List.replicate n 32)
  | 0, out, _ => by rw [whileE_done (r := out) (by simp [spec_l24Blanks_l1])]; simp
  | n + 1, out, h => by
    have e : IntKind.i64.wrap (((n + 1 : Nat) : Int) - 1) = (n : Int) := by rw [wrap_i64 (by omega) (by omega)]; omega
    have hp : decide ((0 : Int) < ((n + 1 : Nat) : Int)) = true := decide_eq_true (by omega)
    rw [whileE_next (s' := ((n : Int), out ++ [32])) (by
      simp only [spec_l24Blanks_l1, hp, if_true, e]
      rw [appOk_of (by simp; omega), ck_true]), blanks_loop n _ (by simp; omega)]
    rw [List.append_assoc, List.replicate_succ]; rfl

theorem Blanks_is {n : Int} (h : n ≤ 100000) : spec_l24Blanks n = some (List.replicate n.toNat 32) := by
  unfold spec_l24Blanks
  by_cases h0 : 0 ≤ n
  · obtain ⟨k, rfl⟩ : ∃ k : Nat, n = (k : Int) := ⟨n.toNat, by omega⟩
    rw [blanks_loop k [] (by simp; omega)]
    simp
  · rw [whileE_done (r := []) (by
      have : decide ((0 : Int) < n) = false := decide_eq_false (by omega)
      simp only [spec_l24Blanks_l1, this, Bool.false_eq_true, if_false])]
    have : n.toNat = 0 := by omega
    rw [this]; rfl

theorem repeat_one (c : UInt8) : ∀ n : Nat, Lib.repeatL [c] n = List.replicate n c
  | 0 => rfl
  | n + 1 => by rw [Lib.repeatL, repeat_one c n, List.replicate_succ]; rfl

theorem Repeat_is {n : Int} (h0 : 0 ≤ n) (h : n ≤ 100000) : hRepeat [32] n = some (List.replicate n.toNat 32) := by
  unfold hRepeat repOk
  rw [decide_eq_true h0, decide_eq_true (show n ≤ 9223372036854775807 by omega), decide_eq_true (show ([32] : List UInt8).length * n.toNat ≤ 140737488355328 by simp; omega), Bool.and_self, Bool.and_self, if_pos rfl, repeat_one]

/-! ### The grid -/

theorem set_getDp {α : Type} (l : List α) (k i : Nat) (x d : α) (hk : k < l.length) : (l.set k x).getD i d = if i = k then x else l.getD i d := by
  rw [List.getD_eq_getElem?_getD, List.getD_eq_getElem?_getD, List.getElem?_set]
  by_cases h : k = i
  · subst h; simp [hk]
  · rw [if_neg h, if_neg (fun e => h e.symm)]

def cnt (r : List UInt8) : Nat := r.countP (fun c => c == 42)
def starsG (G : List (List UInt8)) : Nat := (G.map cnt).sum
def firstG (G : List (List UInt8)) : Prop := ∃ i, i < G.length ∧ 0 < (G.getD i []).length ∧ (G.getD i []).getD 0 0 = 42

theorem cnt_set : ∀ (r : List UInt8) (x : Nat), cnt (r.set x 42) ≤ cnt r + 1
  | [], x => by simp [cnt]
  | c :: r, 0 => by
    unfold cnt
    rw [List.set_cons_zero, List.countP_cons, List.countP_cons]
    split <;> split <;> omega
  | c :: r, x + 1 => by
    have := cnt_set r x
    unfold cnt at this ⊢
    rw [List.set_cons_succ, List.countP_cons, List.countP_cons]
    omega

theorem stars_set : ∀ (G : List (List UInt8)) (y : Nat) (r : List UInt8), cnt r ≤ cnt (G.getD y []) + 1 → starsG (G.set y r) ≤ starsG G + 1
  | [], y, r, _ => by simp [starsG]
  | a :: G, 0, r, h => by
    have h : cnt r ≤ cnt a + 1 := h
    unfold starsG
    rw [List.set_cons_zero, List.map_cons, List.map_cons, List.sum_cons, List.sum_cons]
    omega
  | a :: G, y + 1, r, h => by
    have h := stars_set G y r h
    unfold starsG at h ⊢
    rw [List.set_cons_succ, List.map_cons, List.map_cons, List.sum_cons, List.sum_cons]
    omega

def SizeG (n m : Nat) (G : List (List UInt8)) : Prop := G.length = n ∧ ∀ i, i < n → (G.getD i []).length = m

theorem size_set {n m : Nat} {G : List (List UInt8)} (h : SizeG n m G) {y x : Nat} (hy : y < n) (c : UInt8) : SizeG n m (G.set y ((G.getD y []).set x c)) := by
  refine ⟨by rw [List.length_set]; exact h.1, fun i hi => ?_⟩
  rw [set_getDp _ _ _ _ _ (by rw [h.1]; exact hy)]
  by_cases e : i = y
  · subst e; rw [if_pos rfl, List.length_set]; exact h.2 i hi
  · rw [if_neg e]; exact h.2 i hi

theorem first_set {n m : Nat} {G : List (List UInt8)} (h : SizeG n m G) {y x : Nat} (hy : y < n) (hx : x < m) : (firstG G ∨ x = 0) → firstG (G.set y ((G.getD y []).set x 42)) := by
  have hg : ∀ i, (G.set y ((G.getD y []).set x 42)).getD i [] = if i = y then (G.getD y []).set x 42 else G.getD i [] := fun i => set_getDp _ _ _ _ _ (by rw [h.1]; exact hy)
  have hr : ∀ j, ((G.getD y []).set x 42).getD j 0 = if j = x then 42 else (G.getD y []).getD j 0 := fun j => set_getDp _ _ _ _ _ (by rw [h.2 y hy]; exact hx)
  rintro (⟨i, h1, h2, h3⟩ | rfl)
  · refine ⟨i, by rw [List.length_set]; exact h1, ?_, ?_⟩
    · rw [hg]
      by_cases e : i = y
      · subst e; rw [if_pos rfl, List.length_set]; exact h2
      · rw [if_neg e]; exact h2
    · rw [hg]
      by_cases e : i = y
      · subst e
        rw [if_pos rfl, hr]
        by_cases e0 : 0 = x
        · rw [if_pos e0]
        · rw [if_neg e0]; exact h3
      · rw [if_neg e]; exact h3
  · refine ⟨y, by rw [List.length_set, h.1]; exact hy, ?_, ?_⟩
    · rw [hg, if_pos rfl, List.length_set, h.2 y hy]; exact hx
    · rw [hg, if_pos rfl, hr, if_pos rfl]

theorem divP_lt {x c m : Int} (h0 : 0 ≤ x) (h1 : x ≤ m) (hc : 1 ≤ c) : 0 ≤ x * c / (m + 1) ∧ x * c / (m + 1) < c := by
  refine ⟨Int.ediv_nonneg (Int.mul_nonneg h0 (by omega)) (by omega), Int.ediv_lt_of_lt_mul (by omega) ?_⟩
  have : x * c < (m + 1) * c := Int.mul_lt_mul_of_pos_right (by omega) (by omega)
  rw [Int.mul_comm c (m + 1)]
  exact this

theorem plotG_is {t u a b : Int} {cols n : Nat} (hc : 1 ≤ cols) (hn : 1 ≤ n) : ∀ (r : List Point) (G : List (List UInt8)), SizeG n cols G → (∀ p ∈ r, a ≤ p.Mag ∧ p.Mag ≤ b ∧ t ≤ p.Time ∧ p.Time ≤ u) →
    ∃ G', plotG t u a b cols n r G = some G' ∧ SizeG n cols G' ∧ starsG G' ≤ starsG G + r.length ∧ ((firstG G ∨ (∃ p q, r = p :: q ∧ p.Time = t)) → firstG G') ∧ (r = [] → G' = G)
  | [], G, h, _ => by
    refine ⟨G, rfl, h, by simp, fun c => ?_, fun _ => rfl⟩
    rcases c with c | ⟨p, q, e, _⟩
    · exact c
    · cases e
  | p :: r, G, h, hp => by
    obtain ⟨m1, m2, m3, m4⟩ := hp p List.mem_cons_self
    obtain ⟨y0, y1⟩ := divP_lt (x := p.Mag - a) (c := (n : Int)) (m := b - a) (by omega) (by omega) (by omega)
    obtain ⟨x0, x1⟩ := divP_lt (x := p.Time - t) (c := (cols : Int)) (m := u - t) (by omega) (by omega) (by omega)
    obtain ⟨y, hy⟩ : ∃ y : Nat, (p.Mag - a) * (n : Int) / (b - a + 1) = (y : Int) := ⟨((p.Mag - a) * (n : Int) / (b - a + 1)).toNat, by omega⟩
    obtain ⟨x, hx⟩ : ∃ x : Nat, (p.Time - t) * (cols : Int) / (u - t + 1) = (x : Int) := ⟨((p.Time - t) * (cols : Int) / (u - t + 1)).toNat, by omega⟩
    have hyn : y < n := by omega
    have hxc : x < cols := by omega
    obtain ⟨G', e, s1, s2, s3, _⟩ := plotG_is hc hn r (G.set y ((G.getD y []).set x 42)) (size_set h hyn 42) (fun q hq => hp q (List.mem_cons_of_mem _ hq))
    refine ⟨G', ?_, s1, ?_, fun c => ?_, fun c => by cases c⟩
    · rw [plotG, decide_eq_true m1, decide_eq_true m2, decide_eq_true m3, decide_eq_true m4, hy, hx, h.1]
      simp only [Bool.and_self, ck_true, Int.toNat_natCast]
      rw [decide_eq_true (show (y : Int) < (n : Int) by omega), ck_true, decide_eq_true (show (x : Int) < ((G.getD y []).length : Int) by rw [h.2 y hyn]; omega), ck_true]
      exact e
    · have h1 := stars_set G y ((G.getD y []).set x 42) (cnt_set _ x)
      rw [List.length_cons]; omega
    · refine s3 (.inl (first_set h hyn hxc ?_))
      rcases c with c | ⟨p', q, e', e0⟩
      · exact .inl c
      · right
        cases e'
        have : (p.Time - t) * (cols : Int) / (u - t + 1) = 0 := by rw [show p.Time - t = 0 by omega, Int.zero_mul, Int.zero_ediv]
        omega

/-! ### Both plots -/

theorem goodP_all {c : List Point} (h : goodP c = true) : ∀ (d i : Nat), i + d < c.length → (c.getD i default).Time ≤ (c.getD (i + d) default).Time
  | 0, i, _ => Int.le_refl _
  | d + 1, i, hi => by
    have h1 := goodP_all h d i (by omega)
    have h2 := (goodP_at h (show i + (d + 1) < c.length from hi)).2.2.2.2 (by omega)
    rw [show i + (d + 1) - 1 = i + d by omega] at h2
    omega

theorem fold_ends : ∀ (l : List Int) (a : Int), l.foldl min a ≤ a ∧ a ≤ l.foldl max a ∧ (∀ x ∈ l, l.foldl min a ≤ x ∧ x ≤ l.foldl max a)
  | [], a => ⟨Int.le_refl _, Int.le_refl _, fun x hx => by simp at hx⟩
  | y :: r, a => by
    obtain ⟨h1, _, h3⟩ := fold_ends r (min a y)
    obtain ⟨_, k2, _⟩ := fold_ends r (max a y)
    show r.foldl min (min a y) ≤ a ∧ a ≤ r.foldl max (max a y) ∧ _
    refine ⟨by omega, by omega, fun x hx => ?_⟩
    show r.foldl min (min a y) ≤ x ∧ x ≤ r.foldl max (max a y)
    rcases List.mem_cons.1 hx with rfl | hx
    · omega
    · exact ⟨((fold_ends r (min a y)).2.2 x hx).1, ((fold_ends r (max a y)).2.2 x hx).2⟩

theorem m_is : ∀ (l : List Point) (a b : Int), spec_PlotLines_m l a b = some ((l.map (·.Mag)).foldl min a, (l.map (·.Mag)).foldl max b)
  | [], a, b => rfl
  | p :: r, a, b => by
    rw [spec_PlotLines_m, Min_is, Option.bind_some, Max_is, Option.bind_some, m_is r]
    rfl

theorem magsIn_is {c : List Point} (hl : c.length ≤ 1000000) : impl_magsIn c = some (c.map (·.Mag)) := by
  unfold impl_magsIn
  have e := while_keep (step := impl_magsIn_l1 c (c.length : Int)) (fun i => true) (fun i => (c.getD i default).Mag) c.length (r := c.map (·.Mag)) (fun out i hi ho => by
    simp only [impl_magsIn_l1, Int.ofNat_lt, hi, decide_true, if_true, ixOk_nat, ck_true, Int.toNat_natCast, wrap_nat1 (show i < 9223372036854775807 by omega)]
    rw [appOk_of (by simp; omega), ck_true]) (by
    have := kept_map c (fun _ => true) (·.Mag) default
    rw [this, List.filter_eq_self.2 (fun _ _ => rfl)]
    simp [impl_magsIn_l1])
  rw [e]; rfl

def plotOk (c : List Point) (cols rows : Int) : Bool := (goodP c && decide (c.length ≤ 100)) && ((decide (1 ≤ cols) && decide (cols ≤ 80)) && (decide (1 ≤ rows) && decide (rows ≤ 60)))

theorem Plot_same {c : List Point} (hl : c.length ≤ 1000000) (cols rows : Int) : ∃ o k, impl_PlotLines c cols rows = some (o, k) ∧ spec_PlotLines c cols rows = some (o, k) ∧ o.length ≤ 1000 ∧
    (k = 0 → 1 ≤ rows ∧ (∃ m : Nat, m ≤ 80 ∧ SizeG rows.toNat m o) ∧ starsG o ≤ c.length ∧ (0 < c.length → firstG o) ∧ (c = [] → starsG o = 0)) := by
  unfold impl_PlotLines spec_PlotLines
  rw [ValidCurve_is (by omega), l08Ok_is (by omega)]
  simp only [Option.bind_some]
  cases hv : (goodP c && decide (c.length ≤ 100))
  · exact ⟨[], 1, rfl, rfl, by simp, fun h => absurd h (by decide)⟩
  · simp only [Bool.not_true, Bool.false_eq_true, if_false, impl_in, spec_l00In, Option.bind_some]
    cases hx : (decide (1 ≤ cols) && decide (cols ≤ 80))
    · exact ⟨[], 2, rfl, rfl, by simp, fun h => absurd h (by decide)⟩
    · cases hy : (decide (1 ≤ rows) && decide (rows ≤ 60))
      · exact ⟨[], 2, rfl, rfl, by simp, fun h => absurd h (by decide)⟩
      · simp only [Bool.and_eq_true, decide_eq_true_eq] at hv hx hy
        obtain ⟨hg, h100⟩ := hv
        obtain ⟨m, rfl⟩ : ∃ m : Nat, cols = (m : Int) := ⟨cols.toNat, by omega⟩
        obtain ⟨n, rfl⟩ : ∃ n : Nat, rows = (n : Int) := ⟨rows.toNat, by omega⟩
        simp only [Bool.not_true, Bool.or_self, Bool.false_eq_true, if_false]
        rw [decide_eq_true (show c.length ≤ 1000000 by omega), decide_eq_true hx.1, decide_eq_true hx.2, decide_eq_true hy.1, decide_eq_true hy.2]
        simp only [Bool.and_self, ck_true]
        rw [Repeat_is (by omega) (by omega), Blanks_is (by omega)]
        simp only [Option.bind_some, Int.toNat_natCast]
        rw [decide_eq_true (show (List.replicate m (32 : UInt8)).length ≤ 1000 by simp; omega)]
        simp only [ck_true]
        have hS : SizeG n m (List.replicate n (List.replicate m 32)) := ⟨by simp, fun i hi => by rw [List.getD_eq_getElem?_getD, List.getElem?_eq_getElem (by simpa using hi)]; simp⟩
        have h0 : starsG (List.replicate n (List.replicate m 32)) = 0 := by
          have : cnt (List.replicate m 32) = 0 := by unfold cnt; rw [List.countP_replicate]; rfl
          unfold starsG
          rw [List.map_replicate, this]; simp
        by_cases hc : 0 < c.length
        · rw [decide_eq_true (show (0 : Int) < (c.length : Int) by omega)]
          simp only [if_true]
          have hin : ∀ p ∈ c, InM p.Mag ∧ (c.getD 0 default).Time ≤ p.Time ∧ p.Time ≤ (c.getD (c.length - 1) default).Time ∧ 0 ≤ p.Time ∧ p.Time ≤ 10000000 := fun p hp => by
            obtain ⟨i, hi, rfl⟩ := List.getElem_of_mem hp
            have h1 := goodP_at hg hi
            have h2 := goodP_all hg i 0 (by omega)
            have h3 := goodP_all hg (c.length - 1 - i) i (by omega)
            rw [Nat.zero_add] at h2
            rw [show i + (c.length - 1 - i) = c.length - 1 by omega] at h3
            rw [getD_lt hi] at h1 h2 h3
            exact ⟨⟨h1.2.2.1, h1.2.2.2.1⟩, h2, h3, h1.1, h1.2.1⟩
          have hms : ∀ x ∈ c.map (·.Mag), InM x := fun x hx => by
            obtain ⟨p, hp, rfl⟩ := List.mem_map.1 hx
            exact (hin p hp).1
          rw [magsIn_is hl, Option.bind_some, Range_is (by simpa using h100) hms, if_neg (by rw [List.length_map]; omega)]
          simp only [Option.bind_some]
          rw [m_is, Option.bind_some]
          have hmm : (((c.drop 1).map (·.Mag)).foldl min (c.getD 0 default).Mag, ((c.drop 1).map (·.Mag)).foldl max (c.getD 0 default).Mag) = (Lib.minOf (c.map (·.Mag)), Lib.maxOf (c.map (·.Mag))) := by
            cases c with
            | nil => simp at hc
            | cons p r =>
              show ((r.map (·.Mag)).foldl min p.Mag, (r.map (·.Mag)).foldl max p.Mag) = ((r.map (·.Mag)).foldl min (min p.Mag p.Mag), (r.map (·.Mag)).foldl max (max p.Mag p.Mag))
              rw [show min p.Mag p.Mag = p.Mag by omega, show max p.Mag p.Mag = p.Mag by omega]
          have hmm1 := congrArg Prod.fst hmm
          have hmm2 := congrArg Prod.snd hmm
          simp only at hmm1 hmm2 ⊢
          rw [hmm1, hmm2]
          obtain ⟨i1, i2⟩ := min_in (l := c.map (·.Mag)) (by simpa using hc) hms
          have hends : ∀ p ∈ c, Lib.minOf (c.map (·.Mag)) ≤ p.Mag ∧ p.Mag ≤ Lib.maxOf (c.map (·.Mag)) := fun p hp =>
            ⟨((fold_ends (c.map (·.Mag)) _).2.2 _ (List.mem_map.2 ⟨p, hp, rfl⟩)).1, ((fold_ends (c.map (·.Mag)) _).2.2 _ (List.mem_map.2 ⟨p, hp, rfl⟩)).2⟩
          generalize Lib.minOf (c.map (·.Mag)) = a at i1 hends ⊢
          generalize Lib.maxOf (c.map (·.Mag)) = b at i2 hends ⊢
          have hp0 := getD_mem hc (default : Point)
          obtain ⟨_, _, t1, t2, t3⟩ := hin _ hp0
          obtain ⟨_, t4, _, t5, t6⟩ := hin _ (getD_mem (show c.length - 1 < c.length by omega) (default : Point))
          obtain ⟨G, e, s1, s2, s3, _⟩ := plotG_is (t := (c.getD 0 default).Time) (u := (c.getD (c.length - 1) default).Time) (a := a) (b := b) (cols := m) (n := n) (by omega) (by omega) c (List.replicate n (List.replicate m 32)) hS (fun p hp => ⟨(hends p hp).1, (hends p hp).2, (hin p hp).2.1, (hin p hp).2.2.1⟩)
          have hab : a ≤ b := by have := hends _ hp0; omega
          have hpe : plotE (c.getD 0 default).Time (c.getD (c.length - 1) default).Time a b m n c (List.replicate m 32) = some (G, 0) := by
            unfold plotE
            unfold InM at i1 i2
            rw [decide_eq_true (show -1000000 ≤ a by omega), decide_eq_true hab, decide_eq_true (show b ≤ 1000000 by omega), decide_eq_true t2, decide_eq_true t4, decide_eq_true (show (c.getD (c.length - 1) default).Time ≤ 100000000 by omega)]
            simp only [Bool.and_self, ck_true, Int.toNat_natCast]
            rw [e]; rfl
          rw [hpe]
          refine ⟨G, 0, rfl, rfl, by have := s1.1; omega, fun _ => ⟨hy.1, ⟨m, by omega, s1⟩, by omega, fun _ => s3 (.inr ?_), fun e => by subst e; simp at hc⟩⟩
          cases c with
          | nil => simp at hc
          | cons p r => exact ⟨p, r, rfl, rfl⟩
        · rw [decide_eq_false (show ¬ (0 : Int) < (c.length : Int) by omega)]
          refine ⟨_, 0, rfl, rfl, by simp; omega, fun _ => ⟨hy.1, ⟨m, by omega, hS⟩, by omega, fun h => absurd h hc, fun _ => h0⟩⟩

end Go.Proofs.YtbobhejdijcofaaGreatDoor

