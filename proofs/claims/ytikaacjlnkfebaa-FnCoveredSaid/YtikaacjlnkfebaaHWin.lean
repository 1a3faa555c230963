/- Plain lemmas: lists of windows and the times in them; the longest windows. No condition. -/
import Derived.Test.YtikaacjlnkfebaaHStabW
import Derived.Test.YtikaacjlnkfebaaEngTD
namespace Go.Proofs.Ytikaacjlnkfebaa
open Go Go.RowKit Go.Proofs.Ytikaacjlnkfebaa.stab
set_option linter.unusedSimpArgs false
set_option linter.unusedVariables false

/-- The times in some windows. -/
def inW (l : List Window) (t : Int) : Prop := ∃ w ∈ l, w.From ≤ t ∧ t ≤ w.To
/-- Every window has a time; all times lie within bounds. -/
def Fit (l : List Window) : Prop := ∀ w ∈ l, 0 ≤ w.From ∧ w.From ≤ w.To ∧ w.To ≤ 1000000000
/-- The windows follow one another, with a time between each two. -/
def Apart (l : List Window) : Prop := l.Pairwise fun x y => x.To + 1 < y.From

theorem inW_nil {t : Int} : ¬ inW [] t := fun ⟨w, h, _⟩ => by cases h
theorem inW_app {a b : List Window} {t : Int} : inW (a ++ b) t ↔ inW a t ∨ inW b t := by
  unfold inW
  constructor
  · rintro ⟨w, h, k⟩
    rcases List.mem_append.1 h with h | h
    · exact .inl ⟨w, h, k⟩
    · exact .inr ⟨w, h, k⟩
  · rintro (⟨w, h, k⟩ | ⟨w, h, k⟩)
    · exact ⟨w, List.mem_append.2 (.inl h), k⟩
    · exact ⟨w, List.mem_append.2 (.inr h), k⟩
theorem inW_cons {x : Window} {b : List Window} {t : Int} : inW (x :: b) t ↔ (x.From ≤ t ∧ t ≤ x.To) ∨ inW b t := by
  unfold inW
  constructor
  · rintro ⟨w, h, k⟩
    rcases List.mem_cons.1 h with rfl | h
    · exact .inl k
    · exact .inr ⟨w, h, k⟩
  · rintro (k | ⟨w, h, k⟩)
    · exact ⟨x, List.mem_cons_self, k⟩
    · exact ⟨w, List.mem_cons_of_mem _ h, k⟩

/-- Windows that lie apart are known by their times. -/
theorem apart_unique : ∀ {a b : List Window}, Fit a → Fit b → Apart a → Apart b → (∀ t, inW a t ↔ inW b t) → a = b
  | [], [], _, _, _, _, _ => rfl
  | [], y :: b, _, fb, _, _, h => by
    have := fb y List.mem_cons_self
    exact absurd ((h y.From).2 (inW_cons.2 (.inl ⟨by omega, by omega⟩))) inW_nil
  | x :: a, [], fa, _, _, _, h => by
    have := fa x List.mem_cons_self
    exact absurd ((h x.From).1 (inW_cons.2 (.inl ⟨by omega, by omega⟩))) inW_nil
  | x :: a, y :: b, fa, fb, pa, pb, h => by
    have hx := fa x List.mem_cons_self
    have hy := fb y List.mem_cons_self
    obtain ⟨pa1, pa2⟩ := List.pairwise_cons.1 pa
    obtain ⟨pb1, pb2⟩ := List.pairwise_cons.1 pb
    have la : ∀ t, inW a t → x.To + 1 < t := fun t ⟨w, hw, k⟩ => by have := pa1 w hw; omega
    have lb : ∀ t, inW b t → y.To + 1 < t := fun t ⟨w, hw, k⟩ => by have := pb1 w hw; omega
    have e1 : x.From = y.From := by
      have h1 := (h x.From).1 (inW_cons.2 (.inl ⟨by omega, by omega⟩))
      have h2 := (h y.From).2 (inW_cons.2 (.inl ⟨by omega, by omega⟩))
      rcases inW_cons.1 h1 with k | k <;> rcases inW_cons.1 h2 with m | m
      · omega
      · have := la _ m; omega
      · have := lb _ k; omega
      · have := la _ m; have := lb _ k; omega
    have e2 : x.To = y.To := by
      rcases Int.lt_trichotomy x.To y.To with g | g | g
      · have h2 := (h (x.To + 1)).2 (inW_cons.2 (.inl ⟨by omega, by omega⟩))
        rcases inW_cons.1 h2 with m | m
        · omega
        · have := la _ m; omega
      · exact g
      · have h1 := (h (y.To + 1)).1 (inW_cons.2 (.inl ⟨by omega, by omega⟩))
        rcases inW_cons.1 h1 with m | m
        · omega
        · have := lb _ m; omega
    have e : x = y := by cases x; cases y; simp_all
    subst e
    congr 1
    refine apart_unique (fun w hw => fa w (List.mem_cons_of_mem _ hw)) (fun w hw => fb w (List.mem_cons_of_mem _ hw)) pa2 pb2 fun t => ?_
    constructor
    · intro ht
      rcases inW_cons.1 ((h t).1 (inW_cons.2 (.inr ht))) with m | m
      · have := la _ ht; omega
      · exact m
    · intro ht
      rcases inW_cons.1 ((h t).2 (inW_cons.2 (.inr ht))) with m | m
      · have := lb _ ht; omega
      · exact m

/-! ### The sort -/

def ltF (a b : Window) : Bool := decide (a.From < b.From)
theorem ltF_O : StO ltF := by
  refine ⟨?_, ?_⟩ <;> (intros; simp only [ltF, decide_eq_true_eq, decide_eq_false_iff_not] at *; omega)
theorem cmpF_ok : CmpOk impl_longest_c1 ltF := fun x y => by
  unfold impl_longest_c1 cmp_Compare_int64 cmp_isNaN_int64 ltF
  by_cases h : x.From < y.From
  · exact ⟨-1, by simp [h], by simp [h]⟩
  · by_cases h2 : y.From < x.From
    · exact ⟨1, by simp [h, h2], by simp [h]⟩
    · exact ⟨0, by simp [h, h2], by simp [h]⟩

theorem sorted_is {l : List Window} (hl : l.length ≤ 1099511627776) : ∃ d, slices_SortedStableFunc_impl_Window__slices_Values_impl_Window_impl_Window__c1__impl_longest_c1 l = some d ∧ d.Pairwise (fun x y => x.From ≤ y.From) ∧ d.Perm l := by
  obtain ⟨d, h1, h2, h3⟩ := stab_is cmpF_ok ltF_O hl
  refine ⟨d, ?_, ?_, h3.perm⟩
  · unfold slices_SortedStableFunc_impl_Window__slices_Values_impl_Window_impl_Window__c1__impl_longest_c1 hCollect slices_SortStableFunc_impl_Window_impl_Window__impl_longest_c1
    rw [if_pos hl, Option.bind_some, i_stab, h1]
    have : (d.length == l.length) = true := by have := h3.len; simp [this]
    simp only [Option.bind_some, this, ck_true]
  · refine h2.imp fun {x y} h => ?_
    simp only [ltF, decide_eq_false_iff_not] at h
    omega

/-! ### The longest windows -/

def lastTo (out : List Window) : Int := (out.getD (out.length - 1) default).To

theorem long_loop (n : Nat) (T : List Window) (hT : T.length = n) (hn : n ≤ 1000000) (hs : T.Pairwise (fun x y => x.From ≤ y.From)) (hf : Fit T) : ∀ (m i : Nat) (out : List Window), i + m = n → out.length ≤ i → Fit out → Apart out →
    (∀ t, inW out t ↔ inW (T.take i) t) → (∀ w ∈ out, ∀ v ∈ T.drop i, w.From ≤ v.From) →
    ∃ r, whileE (impl_longest_l1 T (n : Int)) (out, (i : Int)) = some r ∧ Fit r ∧ Apart r ∧ r.length ≤ n ∧ ∀ t, inW r t ↔ inW T t := by
  intro m
  induction m with
  | zero =>
    intro i out hi ho f p q _
    refine ⟨out, whileE_done ?_, f, p, by omega, fun t => by rw [q, List.take_of_length_le (by omega)]⟩
    unfold impl_longest_l1
    dsimp only
    rw [if_neg (by simp; omega)]
  | succ m ih =>
    intro i out hi ho f p q mono
    have hiT : i < T.length := by omega
    obtain ⟨x, hx⟩ : ∃ x, T.getD i default = x := ⟨_, rfl⟩
    have hxi : T[i] = x := by rw [← hx, getD_lt hiT]
    have hxm : x ∈ T := by rw [← hxi]; exact List.getElem_mem hiT
    have hxf := hf x hxm
    have htk : T.take (i + 1) = T.take i ++ [x] := by rw [List.take_succ_eq_append_getElem hiT, hxi]
    have hdr : T.drop i = x :: T.drop (i + 1) := by rw [List.drop_eq_getElem_cons hiT, hxi]
    have hup : ∀ v ∈ T.drop (i + 1), x.From ≤ v.From := by
      have := List.Pairwise.sublist (List.drop_sublist i T) hs
      rw [hdr] at this
      exact (List.pairwise_cons.1 this).1
    have c1 : decide ((i : Int) < (n : Int)) = true := decide_eq_true (by omega)
    have c2 : ixOk (i : Int) T.length = true := by rw [ixOk_nat]; exact decide_eq_true hiT
    have w1 : IntKind.i64.wrap ((i : Int) + 1) = ((i + 1 : Nat) : Int) := wrap_nat1 (by omega)
    have app : ∀ (hgo : ∀ w ∈ out, w.To + 1 < x.From), impl_longest_l1 T (n : Int) (out, (i : Int)) = some (.inl (out ++ [x], ((i + 1 : Nat) : Int))) →
        ∃ r, whileE (impl_longest_l1 T (n : Int)) (out, (i : Int)) = some r ∧ Fit r ∧ Apart r ∧ r.length ≤ n ∧ ∀ t, inW r t ↔ inW T t := by
      intro hgo hst
      rw [whileE_next hst]
      refine ih (i + 1) (out ++ [x]) (by omega) (by simp; omega) (fun w hw => ?_) (List.pairwise_append.2 ⟨p, List.pairwise_singleton _ _, fun w hw v hv => ?_⟩) (fun t => ?_) (fun w hw v hv => ?_)
      · rcases List.mem_append.1 hw with h | h
        · exact f w h
        · rw [List.mem_singleton.1 h]; exact hxf
      · rw [List.mem_singleton.1 hv]; exact hgo w hw
      · rw [inW_app, q, htk, inW_app]
      · rcases List.mem_append.1 hw with h | h
        · exact mono w h v (by rw [hdr]; exact List.mem_cons_of_mem _ hv)
        · rw [List.mem_singleton.1 h]; exact hup v hv
    rcases List.eq_nil_or_concat out with rfl | ⟨out0, y, rfl⟩
    · refine app (fun w hw => by cases hw) ?_
      unfold impl_longest_l1
      dsimp only
      rw [if_pos c1, c2, ck_true]
      have e : decide ((0 : Int) ≤ IntKind.i64.wrap (((([] : List Window).length : Nat) : Int) - 1)) = false := by
        rw [wrap_i64 (by simp) (by simp)]; simp
      rw [e]
      simp only [Bool.not_false, Bool.true_or, ck_true, Bool.false_and, Bool.false_eq_true, if_false]
      rw [appOk_of (by simp), ck_true, Int.toNat_natCast, hx, w1]
    · rw [List.concat_eq_append] at *
      have hlen : (out0 ++ [y]).length = out0.length + 1 := by simp
      have hy := f y (by simp)
      have hyx : y.From ≤ x.From := mono y (by simp) x (by rw [hdr]; exact List.mem_cons_self)
      have wk : IntKind.i64.wrap (((out0 ++ [y]).length : Int) - 1) = (out0.length : Int) := by
        rw [wrap_i64 (by omega) (by omega)]; omega
      have gk : (out0 ++ [y]).getD out0.length default = y := by simp [List.getD_eq_getElem?_getD]
      have c3 : decide ((0 : Int) ≤ (out0.length : Int)) = true := decide_eq_true (by omega)
      have c4 : ixOk (out0.length : Int) (out0 ++ [y]).length = true := by rw [ixOk_nat]; simp
      have w2 : IntKind.i64.wrap (y.To + 1) = y.To + 1 := wrap_i64 (by omega) (by omega)
      obtain ⟨p1, _, p3⟩ := List.pairwise_append.1 p
      by_cases hc : x.From ≤ y.To + 1
      · have hst : impl_longest_l1 T (n : Int) (out0 ++ [y], (i : Int)) = some (.inl (out0 ++ [⟨y.From, if y.To < x.To then x.To else y.To⟩], ((i + 1 : Nat) : Int))) := by
          unfold impl_longest_l1
          dsimp only
          rw [if_pos c1, c2, ck_true]
          simp only [wk, c3, c4, Bool.or_true, ck_true, Int.toNat_natCast, hx, gk, w2, w1, decide_eq_true hc, Bool.and_self, if_true]
          simp
        obtain ⟨M, hM⟩ : ∃ M, (if y.To < x.To then x.To else y.To) = M := ⟨_, rfl⟩
        rw [hM] at hst
        have hM1 : y.To ≤ M ∧ x.To ≤ M ∧ (M = y.To ∨ M = x.To) := by
          rw [← hM]; split <;> omega
        rw [whileE_next hst]
        refine ih (i + 1) (out0 ++ [⟨y.From, M⟩]) (by omega) (by simp at ho ⊢; omega) (fun w hw => ?_) (List.pairwise_append.2 ⟨p1, List.pairwise_singleton _ _, fun w hw v hv => ?_⟩) (fun t => ?_) (fun w hw v hv => ?_)
        · rcases List.mem_append.1 hw with h | h
          · exact f w (List.mem_append.2 (.inl h))
          · rw [List.mem_singleton.1 h]
            refine ⟨hy.1, ?_, ?_⟩
            · show y.From ≤ M; omega
            · show M ≤ 1000000000; omega
        · rw [List.mem_singleton.1 hv]
          exact p3 w hw y (List.mem_singleton.2 rfl)
        · have := q t
          rw [inW_app, inW_cons] at this
          rw [inW_app, inW_cons, htk, inW_app, inW_cons, ← this]
          have e1 : ¬ inW [] t := inW_nil
          constructor
          · rintro (h | h | h)
            · exact .inl (.inl h)
            · have h : y.From ≤ t ∧ t ≤ M := h
              by_cases g : t ≤ y.To
              · exact .inl (.inr (.inl ⟨h.1, g⟩))
              · exact .inr (.inl ⟨by omega, by omega⟩)
            · exact absurd h e1
          · rintro ((h | h | h) | h | h)
            · exact .inl h
            · exact .inr (.inl ⟨h.1, by show t ≤ M; omega⟩)
            · exact absurd h e1
            · exact .inr (.inl ⟨by show y.From ≤ t; omega, by show t ≤ M; omega⟩)
            · exact absurd h e1
        · rcases List.mem_append.1 hw with h | h
          · exact mono w (List.mem_append.2 (.inl h)) v (by rw [hdr]; exact List.mem_cons_of_mem _ hv)
          · rw [List.mem_singleton.1 h]
            exact mono y (by simp) v (by rw [hdr]; exact List.mem_cons_of_mem _ hv)
      · refine app (fun w hw => ?_) ?_
        · rcases List.mem_append.1 hw with h | h
          · have := p3 w h y (List.mem_singleton.2 rfl); omega
          · rw [List.mem_singleton.1 h]; omega
        · unfold impl_longest_l1
          dsimp only
          rw [if_pos c1, c2, ck_true]
          simp only [wk, c3, c4, Bool.or_true, ck_true, Int.toNat_natCast, hx, gk, w2, w1, decide_eq_false hc, Bool.and_false, Bool.false_eq_true, if_false]
          rw [appOk_of (by simp at ho ⊢; omega), ck_true]

theorem fit_perm {a b : List Window} (h : a.Perm b) (f : Fit b) : Fit a := fun w hw => f w (h.mem_iff.1 hw)
theorem inW_perm {a b : List Window} (h : a.Perm b) (t : Int) : inW a t ↔ inW b t := by
  constructor
  · rintro ⟨w, hw, k⟩; exact ⟨w, h.mem_iff.1 hw, k⟩
  · rintro ⟨w, hw, k⟩; exact ⟨w, h.mem_iff.2 hw, k⟩

theorem longest_is {l : List Window} (hl : l.length ≤ 1000000) (hf : Fit l) : ∃ r, impl_longest l = some r ∧ Fit r ∧ Apart r ∧ r.length ≤ l.length ∧ ∀ t, inW r t ↔ inW l t := by
  obtain ⟨d, h1, h2, h3⟩ := sorted_is (l := l) (by omega)
  have hdl : d.length = l.length := h3.length_eq
  obtain ⟨r, k1, k2, k3, k4, k5⟩ := long_loop l.length d hdl hl h2 (fit_perm h3 hf) l.length 0 [] (by omega) (by simp) (fun w hw => by cases hw) List.Pairwise.nil (fun t => by simp [inW]) (fun w hw => by cases hw)
  refine ⟨r, ?_, k2, k3, k4, fun t => by rw [k5, inW_perm h3]⟩
  unfold impl_longest slices_Values_impl_Window_impl_Window
  rw [Option.bind_some, h1, Option.bind_some, hdl]
  have k1' : whileE (impl_longest_l1 d (l.length : Int)) (([] : List Window), 0) = some r := k1
  rw [k1']
  rfl

/-! ### What is in both -/

theorem meet_in (b : List Window) (hb : b.length ≤ 1000) (fb : Fit b) (x : Window) (fx : 0 ≤ x.From ∧ x.To ≤ 1000000000) (t13 : List Window) (t14 t15 : Int) : ∀ (m i : Nat) (out : List Window), i + m = b.length → out.length ≤ 1000000 + i → Fit out →
    ∃ r, whileE (impl_meet_l2 b x t13 t14 t15 b (b.length : Int)) (out, (i : Int)) = some r ∧ Fit r ∧ r.length ≤ out.length + m ∧ ∀ t, inW r t ↔ inW out t ∨ ((x.From ≤ t ∧ t ≤ x.To) ∧ inW (b.drop i) t) := by
  intro m
  induction m with
  | zero =>
    intro i out hi ho f
    refine ⟨out, whileE_done ?_, f, by omega, fun t => ?_⟩
    · unfold impl_meet_l2; dsimp only; rw [if_neg (by simp; omega)]
    · rw [List.drop_eq_nil_of_le (by omega)]
      constructor
      · exact .inl
      · rintro (h | ⟨_, h⟩)
        · exact h
        · exact absurd h inW_nil
  | succ m ih =>
    intro i out hi ho f
    have hib : i < b.length := by omega
    obtain ⟨y, hy⟩ : ∃ y, b.getD i default = y := ⟨_, rfl⟩
    have hyi : b[i] = y := by rw [← hy, getD_lt hib]
    have fy := fb y (by rw [← hyi]; exact List.getElem_mem hib)
    have hdr : b.drop i = y :: b.drop (i + 1) := by rw [List.drop_eq_getElem_cons hib, hyi]
    have c1 : decide ((i : Int) < (b.length : Int)) = true := decide_eq_true (by omega)
    have c2 : ixOk (i : Int) b.length = true := by rw [ixOk_nat]; exact decide_eq_true hib
    have w1 : IntKind.i64.wrap ((i : Int) + 1) = ((i + 1 : Nat) : Int) := wrap_nat1 (by omega)
    obtain ⟨lo, hlo⟩ : ∃ lo, (if x.From < y.From then y.From else x.From) = lo := ⟨_, rfl⟩
    obtain ⟨hi', hhi⟩ : ∃ hi', (if y.To < x.To then y.To else x.To) = hi' := ⟨_, rfl⟩
    have l1 : x.From ≤ lo ∧ y.From ≤ lo ∧ (lo = x.From ∨ lo = y.From) := by rw [← hlo]; split <;> omega
    have l2 : hi' ≤ x.To ∧ hi' ≤ y.To ∧ (hi' = x.To ∨ hi' = y.To) := by rw [← hhi]; split <;> omega
    by_cases hc : lo ≤ hi'
    · have hst : impl_meet_l2 b x t13 t14 t15 b (b.length : Int) (out, (i : Int)) = some (.inl (out ++ [⟨lo, hi'⟩], ((i + 1 : Nat) : Int))) := by
        unfold impl_meet_l2
        dsimp only
        rw [if_pos c1, c2, ck_true]
        simp only [Int.toNat_natCast, hy, hlo, hhi, decide_eq_true hc, if_true]
        rw [appOk_of (by simp; omega), ck_true, w1]
      rw [whileE_next hst]
      obtain ⟨r, r1, r2, r3, r4⟩ := ih (i + 1) (out ++ [⟨lo, hi'⟩]) (by omega) (by simp; omega) (fun w hw => by
        rcases List.mem_append.1 hw with h | h
        · exact f w h
        · rw [List.mem_singleton.1 h]
          refine ⟨?_, hc, ?_⟩
          · show 0 ≤ lo; omega
          · show hi' ≤ 1000000000; omega)
      refine ⟨r, r1, r2, by simp at r3; omega, fun t => ?_⟩
      rw [r4, inW_app, inW_cons, hdr, inW_cons]
      have e1 : ¬ inW [] t := inW_nil
      constructor
      · rintro ((h | h | h) | h)
        · exact .inl h
        · have h : lo ≤ t ∧ t ≤ hi' := h
          exact .inr ⟨⟨by omega, by omega⟩, .inl ⟨by omega, by omega⟩⟩
        · exact absurd h e1
        · exact .inr ⟨h.1, .inr h.2⟩
      · rintro (h | ⟨h, k | k⟩)
        · exact .inl (.inl h)
        · exact .inl (.inr (.inl ⟨by show lo ≤ t; omega, by show t ≤ hi'; omega⟩))
        · exact .inr ⟨h, k⟩
    · have hst : impl_meet_l2 b x t13 t14 t15 b (b.length : Int) (out, (i : Int)) = some (.inl (out, ((i + 1 : Nat) : Int))) := by
        unfold impl_meet_l2
        dsimp only
        rw [if_pos c1, c2, ck_true]
        simp only [Int.toNat_natCast, hy, hlo, hhi, decide_eq_false hc, Bool.false_eq_true, if_false, w1]
      rw [whileE_next hst]
      obtain ⟨r, r1, r2, r3, r4⟩ := ih (i + 1) out (by omega) (by omega) f
      refine ⟨r, r1, r2, by omega, fun t => ?_⟩
      rw [r4, hdr, inW_cons]
      constructor
      · rintro (h | h)
        · exact .inl h
        · exact .inr ⟨h.1, .inr h.2⟩
      · rintro (h | ⟨h, k | k⟩)
        · exact .inl h
        · exact absurd (show lo ≤ hi' by omega) hc
        · exact .inr ⟨h, k⟩

theorem meet_out (b : List Window) (hb : b.length ≤ 1000) (fb : Fit b) (a : List Window) (ha : a.length ≤ 1000) (fa : Fit a) : ∀ (m i : Nat) (out : List Window), i + m = a.length → out.length ≤ i * 1000 → Fit out →
    ∃ r, whileE (impl_meet_l1 b a (a.length : Int)) (out, (i : Int)) = some r ∧ Fit r ∧ r.length ≤ 1000000 ∧ ∀ t, inW r t ↔ inW out t ∨ (inW (a.drop i) t ∧ inW b t) := by
  intro m
  induction m with
  | zero =>
    intro i out hi ho f
    refine ⟨out, whileE_done ?_, f, by omega, fun t => ?_⟩
    · unfold impl_meet_l1; dsimp only; rw [if_neg (by simp; omega)]
    · rw [List.drop_eq_nil_of_le (by omega)]
      constructor
      · exact .inl
      · rintro (h | ⟨h, _⟩)
        · exact h
        · exact absurd h inW_nil
  | succ m ih =>
    intro i out hi ho f
    have hia : i < a.length := by omega
    obtain ⟨x, hx⟩ : ∃ x, a.getD i default = x := ⟨_, rfl⟩
    have hxi : a[i] = x := by rw [← hx, getD_lt hia]
    have fx := fa x (by rw [← hxi]; exact List.getElem_mem hia)
    have hdr : a.drop i = x :: a.drop (i + 1) := by rw [List.drop_eq_getElem_cons hia, hxi]
    have c1 : decide ((i : Int) < (a.length : Int)) = true := decide_eq_true (by omega)
    have c2 : ixOk (i : Int) a.length = true := by rw [ixOk_nat]; exact decide_eq_true hia
    have w1 : IntKind.i64.wrap ((i : Int) + 1) = ((i + 1 : Nat) : Int) := wrap_nat1 (by omega)
    obtain ⟨r, r1, r2, r3, r4⟩ := meet_in b hb fb x ⟨fx.1, fx.2.2⟩ a (a.length : Int) (i : Int) b.length 0 out (by omega) (by omega) f
    have r1' : whileE (impl_meet_l2 b x a (a.length : Int) (i : Int) b (b.length : Int)) (out, 0) = some r := r1
    have hst : impl_meet_l1 b a (a.length : Int) (out, (i : Int)) = some (.inl (r, ((i + 1 : Nat) : Int))) := by
      unfold impl_meet_l1
      dsimp only
      rw [if_pos c1, c2, ck_true]
      simp only [Int.toNat_natCast, hx]
      rw [r1', Option.bind_some, w1]
    rw [whileE_next hst]
    obtain ⟨r', s1, s2, s3, s4⟩ := ih (i + 1) r (by omega) (by omega) r2
    refine ⟨r', s1, s2, s3, fun t => ?_⟩
    rw [s4, r4, hdr, inW_cons, List.drop_zero]
    constructor
    · rintro ((h | h) | h)
      · exact .inl h
      · exact .inr ⟨.inl h.1, h.2⟩
      · exact .inr ⟨.inr h.1, h.2⟩
    · rintro (h | ⟨h | h, k⟩)
      · exact .inl (.inl h)
      · exact .inl (.inr ⟨h, k⟩)
      · exact .inr ⟨h, k⟩

theorem meet_is {a b : List Window} (ha : a.length ≤ 1000) (hb : b.length ≤ 1000) (fa : Fit a) (fb : Fit b) : ∃ r, impl_meet a b = some r ∧ Fit r ∧ Apart r ∧ r.length ≤ 1000000 ∧ ∀ t, inW r t ↔ inW a t ∧ inW b t := by
  obtain ⟨o, h1, h2, h3, h4⟩ := meet_out b hb fb a ha fa a.length 0 [] (by omega) (by simp) (fun w hw => by cases hw)
  obtain ⟨r, k1, k2, k3, k4, k5⟩ := longest_is h3 h2
  refine ⟨r, ?_, k2, k3, by omega, fun t => ?_⟩
  · unfold impl_meet
    have h1' : whileE (impl_meet_l1 b a (a.length : Int)) (([] : List Window), 0) = some o := h1
    rw [h1', Option.bind_some, k1]
    rfl
  · rw [k5, h4, List.drop_zero]
    constructor
    · rintro (h | h)
      · exact absurd h inW_nil
      · exact h
    · exact .inr

/-! ### What is in one and not in the other -/

theorem without_loop (a : List Window) (T : List Window) (n : Nat) (hT : T.length = n) (hn : n ≤ 900) (fT : Fit T) (pT : Apart T) : ∀ (m i : Nat) (rest : List Window) (from_ : Int), i + m = n → rest.length ≤ i → Fit rest → 0 ≤ from_ → from_ ≤ 1000000001 →
    (∀ v ∈ T.drop i, from_ ≤ v.From) → (∀ t, inW rest t ↔ 0 ≤ t ∧ t < from_ ∧ ¬ inW (T.take i) t) → (∀ t, inW (T.take i) t → t < from_) →
    ∃ r f', whileE (impl_without_l1 a T (n : Int)) (rest, from_, (i : Int)) = some (r, f') ∧ Fit r ∧ r.length ≤ n ∧ 0 ≤ f' ∧ (∀ t, inW r t ↔ 0 ≤ t ∧ t < f' ∧ ¬ inW T t) ∧ ∀ t, inW T t → t < f' := by
  intro m
  induction m with
  | zero =>
    intro i rest from_ hi ho f h0 h1 up q r
    refine ⟨rest, from_, whileE_done ?_, f, by omega, h0, fun t => ?_, fun t ht => r t ?_⟩
    · unfold impl_without_l1; dsimp only; rw [if_neg (by simp; omega)]
    · rw [q, List.take_of_length_le (by omega)]
    · rw [List.take_of_length_le (by omega)]; exact ht
  | succ m ih =>
    intro i rest from_ hi ho f h0 h1 up q r
    have hiT : i < T.length := by omega
    obtain ⟨x, hx⟩ : ∃ x, T.getD i default = x := ⟨_, rfl⟩
    have hxi : T[i] = x := by rw [← hx, getD_lt hiT]
    have fx := fT x (by rw [← hxi]; exact List.getElem_mem hiT)
    have htk : T.take (i + 1) = T.take i ++ [x] := by rw [List.take_succ_eq_append_getElem hiT, hxi]
    have hdr : T.drop i = x :: T.drop (i + 1) := by rw [List.drop_eq_getElem_cons hiT, hxi]
    have hux := up x (by rw [hdr]; exact List.mem_cons_self)
    have hup : ∀ v ∈ T.drop (i + 1), x.To + 1 ≤ v.From := by
      have := List.Pairwise.sublist (List.drop_sublist i T) pT
      rw [hdr] at this
      intro v hv
      have := (List.pairwise_cons.1 this).1 v hv
      omega
    have c1 : decide ((i : Int) < (n : Int)) = true := decide_eq_true (by omega)
    have c2 : ixOk (i : Int) T.length = true := by rw [ixOk_nat]; exact decide_eq_true hiT
    have w1 : IntKind.i64.wrap ((i : Int) + 1) = ((i + 1 : Nat) : Int) := wrap_nat1 (by omega)
    have w2 : IntKind.i64.wrap (x.To + 1) = x.To + 1 := wrap_i64 (by omega) (by omega)
    have w3 : IntKind.i64.wrap (x.From - 1) = x.From - 1 := wrap_i64 (by omega) (by omega)
    have r' : ∀ t, inW (T.take (i + 1)) t → t < x.To + 1 := fun t ht => by
      rw [htk, inW_app, inW_cons] at ht
      rcases ht with h | h | h
      · have := r t h; omega
      · omega
      · exact absurd h inW_nil
    have core : ∀ t, (0 ≤ t ∧ t < x.To + 1 ∧ ¬ inW (T.take (i + 1)) t) ↔ (0 ≤ t ∧ t < from_ ∧ ¬ inW (T.take i) t) ∨ (from_ ≤ t ∧ t ≤ x.From - 1) := fun t => by
      rw [htk, inW_app, inW_cons]
      have e1 : ¬ inW [] t := inW_nil
      have rt := r t
      constructor
      · rintro ⟨g1, g2, g3⟩
        by_cases g : t < from_
        · exact .inl ⟨g1, g, fun c => g3 (.inl c)⟩
        · refine .inr ⟨by omega, ?_⟩
          rcases Int.lt_or_le (x.From - 1) t with c | c
          · exact absurd (.inr (.inl ⟨by omega, by omega⟩)) g3
          · exact c
      · rintro (⟨g1, g2, g3⟩ | ⟨g1, g2⟩)
        · refine ⟨g1, by omega, ?_⟩
          rintro (c | c | c)
          · exact g3 c
          · omega
          · exact e1 c
        · refine ⟨by omega, by omega, ?_⟩
          rintro (c | c | c)
          · have := rt c; omega
          · omega
          · exact e1 c
    by_cases hc : from_ < x.From
    · have hst : impl_without_l1 a T (n : Int) (rest, from_, (i : Int)) = some (.inl (rest ++ [⟨from_, x.From - 1⟩], x.To + 1, ((i + 1 : Nat) : Int))) := by
        unfold impl_without_l1
        dsimp only
        rw [if_pos c1, c2, ck_true]
        simp only [Int.toNat_natCast, hx, decide_eq_true hc, if_true, w1, w2, w3]
        rw [appOk_of (by simp; omega), ck_true]
      rw [whileE_next hst]
      refine ih (i + 1) _ _ (by omega) (by simp; omega) (fun w hw => ?_) (by omega) (by omega) hup (fun t => ?_) r'
      · rcases List.mem_append.1 hw with h | h
        · exact f w h
        · rw [List.mem_singleton.1 h]
          refine ⟨h0, ?_, ?_⟩
          · show from_ ≤ x.From - 1; omega
          · show x.From - 1 ≤ 1000000000; omega
      · rw [core, inW_app, inW_cons, q]
        have e1 : ¬ inW [] t := inW_nil
        constructor
        · rintro (h | h | h)
          · exact .inl h
          · exact .inr h
          · exact absurd h e1
        · rintro (h | h)
          · exact .inl h
          · exact .inr (.inl h)
    · have hst : impl_without_l1 a T (n : Int) (rest, from_, (i : Int)) = some (.inl (rest, x.To + 1, ((i + 1 : Nat) : Int))) := by
        unfold impl_without_l1
        dsimp only
        rw [if_pos c1, c2, ck_true]
        simp only [Int.toNat_natCast, hx, decide_eq_false hc, Bool.false_eq_true, if_false, w1, w2, w3]
      rw [whileE_next hst]
      refine ih (i + 1) _ _ (by omega) (by omega) f (by omega) (by omega) hup (fun t => ?_) r'
      rw [core, q]
      constructor
      · exact .inl
      · rintro (h | h)
        · exact h
        · omega

/-- All windows of a within the times of the desk: what of them is not in b. -/
theorem without_is {a b : List Window} (ha : a.length ≤ 1000) (hb : b.length ≤ 900) (fa : Fit a) (fb : Fit b) (ta : ∀ w ∈ a, w.To ≤ 10000000) : ∃ r, impl_without a b = some r ∧ Fit r ∧ Apart r ∧ r.length ≤ 1000000 ∧ ∀ t, inW r t ↔ inW a t ∧ ¬ inW b t := by
  obtain ⟨T, h1, h2, h3, h4, h5⟩ := longest_is (l := b) (by omega) fb
  obtain ⟨rest, f', k1, k2, k3, k4, k5, k6⟩ := without_loop a T T.length rfl (by omega) h2 h3 T.length 0 [] 0 (by omega) (by simp) (fun w hw => by cases hw) (by omega) (by omega)
    (fun v hv => (h2 v (by simpa using hv)).1) (fun t => by
      constructor
      · intro h; exact absurd h inW_nil
      · rintro ⟨c1, c2, _⟩; omega) (fun t h => absurd h (by simp [inW]))
  have k1' : whileE (impl_without_l1 a T (T.length : Int)) (([] : List Window), 0, 0) = some (rest, f') := k1
  have fin : ∀ rest' : List Window, rest'.length ≤ 1000 → Fit rest' → (∀ t, t ≤ 10000000 → (inW rest' t ↔ 0 ≤ t ∧ ¬ inW b t)) → ∃ r, impl_meet a rest' = some r ∧ Fit r ∧ Apart r ∧ r.length ≤ 1000000 ∧ ∀ t, inW r t ↔ inW a t ∧ ¬ inW b t := by
    intro rest' l' f'' q
    obtain ⟨r, m1, m2, m3, m4, m5⟩ := meet_is ha l' fa f''
    refine ⟨r, m1, m2, m3, m4, fun t => ?_⟩
    rw [m5]
    constructor
    · rintro ⟨g, g2⟩
      obtain ⟨w, hw, hk⟩ := g
      have := ta w hw
      exact ⟨⟨w, hw, hk⟩, ((q t (by omega)).1 g2).2⟩
    · rintro ⟨g, g2⟩
      obtain ⟨w, hw, hk⟩ := g
      have := ta w hw
      have := (fa w hw).1
      exact ⟨⟨w, hw, hk⟩, (q t (by omega)).2 ⟨by omega, g2⟩⟩
  unfold impl_without
  rw [h1, Option.bind_some, k1', Option.bind_some]
  dsimp only
  by_cases hc : f' ≤ 10000000
  · rw [if_pos (decide_eq_true hc), appOk_of (by simp; omega), ck_true]
    obtain ⟨r, m1, m2⟩ := fin (rest ++ [⟨f', 10000000⟩]) (by simp; omega) (fun w hw => by
      rcases List.mem_append.1 hw with h | h
      · exact k2 w h
      · rw [List.mem_singleton.1 h]; exact ⟨k4, hc, by show (10000000 : Int) ≤ 1000000000; omega⟩) (fun t ht => by
      rw [inW_app, inW_cons, k5, h5]
      have e1 : ¬ inW [] t := inW_nil
      have k6 := k6 t
      rw [h5] at k6
      constructor
      · rintro (⟨c1, c2, c3⟩ | c | c)
        · exact ⟨c1, c3⟩
        · have c : f' ≤ t ∧ t ≤ 10000000 := c
          exact ⟨by omega, fun d => by have := k6 d; omega⟩
        · exact absurd c e1
      · rintro ⟨c1, c2⟩
        by_cases g : t < f'
        · exact .inl ⟨c1, g, c2⟩
        · exact .inr (.inl ⟨by show f' ≤ t; omega, ht⟩))
    exact ⟨r, by rw [m1]; rfl, m2⟩
  · rw [if_neg (by simpa using hc)]
    obtain ⟨r, m1, m2⟩ := fin rest (by omega) k2 (fun t ht => by
      rw [k5, h5]
      constructor
      · rintro ⟨c1, _, c3⟩; exact ⟨c1, c3⟩
      · rintro ⟨c1, c2⟩; exact ⟨c1, by omega, c2⟩)
    exact ⟨r, by rw [m1]; rfl, m2⟩

end Go.Proofs.Ytikaacjlnkfebaa
