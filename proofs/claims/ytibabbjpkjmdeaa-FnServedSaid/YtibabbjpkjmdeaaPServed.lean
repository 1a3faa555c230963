/- The plain law of FnServed. No condition. -/
import Derived.Test.YtibabbjpkjmdeaaHReq
import Derived.Test.YtibabbjpkjmdeaaHFrac
import Derived.Test.YtibabbjpkjmdeaaHBentE
namespace Go.Proofs.Ytibabbjpkjmdeaa
open Go Go.RowKit
set_option linter.unusedSimpArgs false
set_option linter.unusedVariables false

/-! ### Draws -/

theorem l22New_is {m : Nat} {s : L00Src} (h : SrcN (m + 20) s) : ∃ x s', spec_l22New s = some (x, s') ∧ SrcN m s' := by
  unfold spec_l22New
  obtain ⟨n, s1, e1, _, h1⟩ := text_is (m := m + 18) h (l := [([109, 105, 114, 97] : List UInt8), ([114, 114, 45, 108, 121, 114] : List UInt8), ([115, 115, 45, 99, 121, 103] : List UInt8)]) (by simp) (by simp)
  obtain ⟨a, s2, e2, _, _, _, h2⟩ := pick_is (m := m + 16) h1 (n := 25) (by omega)
  obtain ⟨b, s3, e3, _, _, _, h3⟩ := pick_is (m := m + 14) h2 (n := 15) (by omega)
  obtain ⟨c, s4, e4, c0, c1, _, h4⟩ := pick_is (m := m + 12) h3 (n := 5) (by omega)
  have c2 := c1 (by omega)
  have w : IntKind.i64.wrap (IntKind.i64.wrap (1 + c) + 1) = c + 2 := by rw [wrap_i64 (n := 1 + c) (by omega) (by omega), wrap_i64 (by omega) (by omega)]; omega
  obtain ⟨d, s5, e5, _, _, _, h5⟩ := pick_is (m := m + 10) h4 (n := c + 2) (by omega)
  obtain ⟨e, s6, e6, _, _, _, h6⟩ := pick_is (m := m + 8) h5 (n := 5) (by omega)
  rw [e1, Option.bind_some, e2, Option.bind_some, e3, Option.bind_some, e4, Option.bind_some]
  simp only [w]
  rw [e5, Option.bind_some, e6]
  exact ⟨_, _, rfl, h6.le (by omega)⟩

theorem l22Spoil_is {m : Nat} {s : L00Src} (h : SrcN (m + 20) s) {l : List Request} {i : Int} (h0 : 0 ≤ i) (h1 : i < l.length) : ∃ l' s', spec_l22Spoil_ix1 s l i = some (s', l') ∧ l'.length = l.length ∧ SrcN m s' := by
  unfold spec_l22Spoil_ix1
  obtain ⟨v, s1, e1, _, _, _, h1'⟩ := pick_is (m := m + 18) h (n := 5) (by omega)
  rw [ixOk_of h0 (by omega), ck_true, e1, Option.bind_some]
  have lens : ∀ x : Request, ((l.set i.toNat x).length == l.length) = true := fun x => by simp
  simp only [lens, ck_true]
  split
  · obtain ⟨x, s2, e2, _, h2⟩ := text_is (m := m + 10) (h1'.le (by omega)) (l := [([] : List UInt8), ([77, 105, 114, 97] : List UInt8), ([120] : List UInt8)]) (by simp) (by simp)
    rw [e2]; exact ⟨_, _, rfl, by simp, h2.le (by omega)⟩
  · split
    · obtain ⟨x, s2, e2, _, h2⟩ := among_is (m := m + 10) (h1'.le (by omega)) (l := [(-1), 0, (l.getD i.toNat default).To, (IntKind.i64.wrap (((l.getD i.toNat default).To) + 1))]) (by simp) (by simp)
      rw [e2]; exact ⟨_, _, rfl, by simp, h2.le (by omega)⟩
    · split
      · obtain ⟨x, s2, e2, _, h2⟩ := among_is (m := m + 10) (h1'.le (by omega)) (l := [(-1), 10000000, 10000001]) (by simp) (by simp)
        rw [e2]; exact ⟨_, _, rfl, by simp, h2.le (by omega)⟩
      · split
        · obtain ⟨x, s2, e2, _, h2⟩ := among_is (m := m + 10) (h1'.le (by omega)) (l := [0, (l.getD i.toNat default).Done, 100, 101, (-9223372036854775808)]) (by simp) (by simp)
          rw [e2]; exact ⟨_, _, rfl, by simp, h2.le (by omega)⟩
        · split
          · obtain ⟨x, s2, e2, _, h2⟩ := among_is (m := m + 10) (h1'.le (by omega)) (l := [0, 1, 5, 6]) (by simp) (by simp)
            rw [e2]; exact ⟨_, _, rfl, by simp, h2.le (by omega)⟩
          · exact ⟨_, _, rfl, rfl, h1'.le (by omega)⟩

theorem bentR_loop {step : L00Src × List Request × Int → Option ((L00Src × List Request × Int) ⊕ (L00Src × List Request))}
    (hs : ∀ (s : L00Src) (l : List Request) (k : Int) , step (s, l, k) = if (decide (0 < k)) then (spec_l22New s).bind fun y_6 => ck (appOk (l.length + ([y_6.1] : List Request).length) 56) <| some (.inl (y_6.2, (l ++ ([y_6.1] : List Request)), (IntKind.i64.wrap (k - 1)))) else some (.inr (s, l)))
    {m : Nat} {s : L00Src} {n : Int} (h0 : 0 ≤ n) (h1 : n ≤ 40) (h : SrcN (m + 800) s) : ∃ l s', whileE step (s, ([] : List Request), n) = some (s', l) ∧ l.length ≤ 40 ∧ SrcN m s' := by
  obtain ⟨y, hy, hq⟩ := while_post (step := step) (fun x => 0 ≤ x.2.2 ∧ (x.2.1.length : Int) + x.2.2 ≤ 40 ∧ SrcN (m + 20 * x.2.2.toNat) x.1) (fun y => y.2.length ≤ 40 ∧ SrcN m y.1) (fun x => x.2.2.toNat) (by
    rintro ⟨s, l, k⟩ ⟨k0, k1, hk⟩
    simp only at k0 k1 hk
    rw [hs]
    by_cases c : 0 < k
    · left
      obtain ⟨x, s', e, h'⟩ := l22New_is (m := m + 20 * (k - 1).toNat) (hk.le (by omega))
      simp only [c, decide_true, if_true, e, Option.bind_some]
      rw [appOk_of (by simp; omega), ck_true, wrap_i64 (n := k - 1) (by omega) (by omega)]
      exact ⟨_, rfl, ⟨by show 0 ≤ k - 1; omega, by show ((l ++ [_]).length : Int) + (k - 1) ≤ 40; simp; omega, h'⟩, by show (k - 1).toNat < k.toNat; omega⟩
    · right
      exact ⟨(s, l), by simp [c], by show l.length ≤ 40; omega, hk.le (by omega)⟩) (s := (s, ([] : List Request), n)) ⟨h0, by simp; omega, h.le (by show m + 20 * n.toNat ≤ m + 800; omega)⟩
  exact ⟨y.2, y.1, hy, hq.1, hq.2⟩

theorem bentR_tail {m : Nat} {s : L00Src} (h : SrcN (m + 40) s) {l : List Request} (hl : l.length ≤ 40) : ∃ l' s', (if (decide (0 < (l.length : Int))) then
      (spec_l00Src_one s 8).bind fun y_10 =>
      if ((decide (0 < (l.length : Int))) && y_10.1) then
        (spec_l00Src_pick y_10.2 (l.length : Int)).bind fun y_12 =>
        ck (ixOk y_12.1 l.length) <|
        (spec_l22Spoil_ix1 y_12.2 l y_12.1).bind fun y_14 =>
        some (y_14.2, y_14.1)
      else
        some (l, y_10.2)
    else
      some (l, s)) = some (l', s') ∧ l'.length ≤ 40 ∧ SrcN m s' := by
  split
  · rename_i hp
    have hp : 0 < (l.length : Int) := by simpa using hp
    obtain ⟨b, s1, e1, h1⟩ := one_is (m := m + 38) h (n := 8) (by omega)
    rw [e1, Option.bind_some]
    simp only
    split
    · obtain ⟨u, s2, e2, u0, u1, _, h2⟩ := pick_is (m := m + 36) h1 (n := (l.length : Int)) (by omega)
      have u2 := u1 (by omega)
      obtain ⟨l', s3, e3, hl3, h3⟩ := l22Spoil_is (m := m + 16) h2 (l := l) u0 u2
      rw [e2, Option.bind_some]
      simp only
      rw [ixOk_of u0 (by omega), ck_true, e3]
      exact ⟨_, _, rfl, by show l'.length ≤ 40; omega, h3.le (by omega)⟩
    · exact ⟨_, _, rfl, hl, h1.le (by omega)⟩
  · exact ⟨_, _, rfl, hl, h.le (by omega)⟩

theorem l22Bent_is {m : Nat} {s : L00Src} (h : SrcN (m + 1000) s) : ∃ l s', spec_l22Bent s = some (l, s') ∧ l.length ≤ 40 ∧ SrcN m s' := by
  unfold spec_l22Bent
  obtain ⟨a, s1, e1, a0, a1, _, h1⟩ := pick_is (m := m + 990) (h.le (by omega)) (n := 7) (by omega)
  have a2 := a1 (by omega)
  obtain ⟨b, s2, e2, h2⟩ := one_is (m := m + 980) (h1.le (by omega)) (n := 24) (by omega)
  rw [e1, Option.bind_some, e2, Option.bind_some]
  simp only
  split
  · obtain ⟨u, s3, e3, u0, u1, _, h3⟩ := pick_is (m := m + 970) (h2.le (by omega)) (n := 2) (by omega)
    have u2 := u1 (by omega)
    rw [e3, Option.bind_some, wrap_i64 (n := 30 + u) (by omega) (by omega)]
    obtain ⟨l, s4, e4, hl, h4⟩ := bentR_loop (step := spec_l22Bent_l1) (fun s l k => id rfl) (m := m + 100) (s := s3) (n := 30 + u) (by omega) (by omega) (h3.le (by omega))
    simp only
    rw [e4, Option.bind_some]
    exact bentR_tail (h4.le (by omega)) hl
  · obtain ⟨l, s4, e4, hl, h4⟩ := bentR_loop (step := spec_l22Bent_l2) (fun s l k => id rfl) (m := m + 100) (s := s2) (n := a) (by omega) (by omega) (h2.le (by omega))
    rw [e4, Option.bind_some]
    exact bentR_tail (h4.le (by omega)) hl

theorem l06When_is {m : Nat} {s : L00Src} (h : SrcN (m + 6) s) : ∃ v s', spec_l06When s = some (v, s') ∧ SrcN m s' := by
  unfold spec_l06When
  obtain ⟨b, s1, e1, h1⟩ := one_is (m := m + 4) h (n := 12) (by omega)
  rw [e1, Option.bind_some]
  simp only
  split
  · obtain ⟨x, s2, e2, _, h2⟩ := among_is (m := m + 2) h1 (l := [(-1), 0, 10000000, 10000001]) (by simp) (by simp)
    rw [e2]; exact ⟨_, _, rfl, h2.le (by omega)⟩
  · obtain ⟨x, s2, e2, _, _, _, h2⟩ := pick_is (m := m + 2) h1 (n := 33) (by omega)
    rw [e2]; exact ⟨_, _, rfl, h2.le (by omega)⟩

theorem l06Name_is {m : Nat} {s : L00Src} (h : SrcN (m + 2) s) : ∃ v s', spec_l06Name s = some (v, s') ∧ SrcN m s' := by
  unfold spec_l06Name
  obtain ⟨x, s2, e2, _, h2⟩ := text_is (m := m) h (l := [([109, 105, 114, 97] : List UInt8), ([114, 114, 45, 108, 121, 114] : List UInt8), ([115, 115, 45, 99, 121, 103] : List UInt8), ([110, 111, 110, 101] : List UInt8), ([] : List UInt8), ([97, 98] : List UInt8), ([99, 100] : List UInt8)]) (by simp) (by simp)
  rw [e2]; exact ⟨_, _, rfl, h2⟩

theorem DrawServeRequests_is {c : List UInt8} (h : c.length ≤ 1099511627776) : ∃ l n t, spec_DrawServeRequests c = some (l, n, t) ∧ l.length ≤ 40 := by
  unfold spec_DrawServeRequests
  obtain ⟨l, s1, e1, hl, h1⟩ := l22Bent_is (m := 1000) ((srcN_from h).le (by omega))
  obtain ⟨n, s2, e2, h2⟩ := l06Name_is (m := 900) (h1.le (by omega))
  obtain ⟨t, s3, e3, _⟩ := l06When_is (m := 800) (h2.le (by omega))
  rw [From_is, Option.bind_some, e1, Option.bind_some, e2, Option.bind_some, e3]
  exact ⟨_, _, _, rfl, hl⟩

theorem DrawServeEstimates_is {c : List UInt8} (h : c.length ≤ 1099511627776) : ∃ l es, spec_DrawServeEstimates c = some (l, es) ∧ l.length ≤ 40 ∧ es.length ≤ 1000 := by
  unfold spec_DrawServeEstimates
  obtain ⟨l, s1, e1, hl, h1⟩ := l22Bent_is (m := 10000) ((srcN_from h).le (by omega))
  obtain ⟨n, s2, e2, hn, h2⟩ := l06Bent_is (m := 900) (h1.le (by omega))
  rw [From_is, Option.bind_some, e1, Option.bind_some, e2]
  exact ⟨_, _, rfl, hl, hn⟩

theorem DrawExpireRequests_is {c : List UInt8} (h : c.length ≤ 1099511627776) : ∃ l t, spec_DrawExpireRequests c = some (l, t) ∧ l.length ≤ 40 := by
  unfold spec_DrawExpireRequests spec_l22Ask
  obtain ⟨l, s1, e1, hl, h1⟩ := l22Bent_is (m := 1000) ((srcN_from h).le (by omega))
  obtain ⟨t, s3, e3, _⟩ := l06When_is (m := 800) (h1.le (by omega))
  rw [From_is, Option.bind_some, e1, Option.bind_some, e3]
  exact ⟨_, _, rfl, hl⟩

theorem DrawServedShare_is {c : List UInt8} (h : c.length ≤ 1099511627776) : ∃ l, spec_DrawServedShare c = some l ∧ l.length ≤ 40 := by
  unfold spec_DrawServedShare
  obtain ⟨l, s1, e1, hl, h1⟩ := l22Bent_is (m := 1000) ((srcN_from h).le (by omega))
  rw [From_is, Option.bind_some, e1]
  exact ⟨_, rfl, hl⟩

/-! ### The served share -/

def sumT (f : Nat → Int) : Nat → Int
  | 0 => 0
  | n + 1 => sumT f n + f n

theorem sumT_in {l : List Request} (hg : goodR l = true) : ∀ n : Nat, n ≤ l.length → 0 ≤ sumT (fun i => (l.getD i default).Done) n ∧ sumT (fun i => (l.getD i default).Done) n ≤ sumT (fun i => (l.getD i default).Wanted) n ∧ n ≤ sumT (fun i => (l.getD i default).Wanted) n ∧ sumT (fun i => (l.getD i default).Wanted) n ≤ 100 * n
  | 0, _ => by simp [sumT]
  | n + 1, h => by
    obtain ⟨h1, h2, h3, h4⟩ := sumT_in hg n (by omega)
    obtain ⟨_, a, b, _⟩ := oneR_in (goodR_at hg (i := n) (by omega))
    simp only [sumT]
    exact ⟨by omega, by omega, by omega, by omega⟩

theorem ServedShare_same {l : List Request} (hl : l.length ≤ 1000) : ∃ f c, impl_ServedShare l = some (f, c) ∧ spec_ServedShare l = some (f, c) ∧ (c = 0 → 0 ≤ f.Num ∧ f.Num ≤ f.Den) := by
  unfold impl_ServedShare spec_ServedShare
  rw [ValidRequests_is (by omega), l22Ok_is (by omega), Option.bind_some, Option.bind_some]
  cases hv : validR l
  · exact ⟨_, 1, rfl, rfl, fun h => by cases h⟩
  · have hg : goodR l = true := by unfold validR at hv; simp only [Bool.and_eq_true] at hv; exact hv.1
    simp only [Bool.not_true, Bool.false_eq_true, if_false]
    by_cases h0 : l.length = 0
    · rw [if_pos (by simp [h0]), if_pos (by simp [h0])]
      exact ⟨_, 3, rfl, rfl, fun h => by cases h⟩
    · rw [if_neg (by simpa using h0), if_neg (by simpa using h0)]
      obtain ⟨s1, s2, s3, s4⟩ := sumT_in hg l.length (Nat.le_refl _)
      have nx : ∀ i : Nat, i < l.length → IntKind.i64.wrap (sumT (fun i => (l.getD i default).Done) i + (l.getD i default).Done) = sumT (fun i => (l.getD i default).Done) (i + 1) ∧ IntKind.i64.wrap (sumT (fun i => (l.getD i default).Wanted) i + (l.getD i default).Wanted) = sumT (fun i => (l.getD i default).Wanted) (i + 1) := fun i hi => by
        obtain ⟨a1, a2, a3, a4⟩ := sumT_in hg i (by omega)
        obtain ⟨_, a, b, _⟩ := oneR_in (goodR_at hg hi)
        exact ⟨wrap_i64 (by omega) (by omega), wrap_i64 (by omega) (by omega)⟩
      have run : ∀ {step : Int × Int × Int → Option ((Int × Int × Int) ⊕ (Int × Int))}, (∀ d w : Int, ∀ i : Nat, i < l.length → step (d, w, (i : Int)) = some (.inl (IntKind.i64.wrap (d + (l.getD i default).Done), IntKind.i64.wrap (w + (l.getD i default).Wanted), ((i + 1 : Nat) : Int)))) → (∀ d w : Int, step (d, w, (l.length : Int)) = some (.inr (d, w))) →
          whileE step (0, 0, 0) = some (sumT (fun i => (l.getD i default).Done) l.length, sumT (fun i => (l.getD i default).Wanted) l.length) := fun {step} p1 p2 => by
        exact whileE_run (step := step) (fun i => (sumT (fun i => (l.getD i default).Done) i, sumT (fun i => (l.getD i default).Wanted) i, (i : Int))) l.length (fun i hi => by rw [p1 _ _ i hi, (nx i hi).1, (nx i hi).2]) (p2 _ _)
      rw [run (step := impl_ServedShare_l1 ⟨0, 0⟩ l (l.length : Int)) (fun d w i hi => by
          simp only [impl_ServedShare_l1, Int.ofNat_lt, hi, decide_true, if_true, ixOk_nat, ck_true, Int.toNat_natCast, wrap_nat1 (show i < 9223372036854775807 by omega)]) (fun d w => by simp [impl_ServedShare_l1]),
        run (step := spec_ServedShare_l1 l ⟨0, 0⟩) (fun d w i hi => by
          simp only [spec_ServedShare_l1, Int.ofNat_lt, hi, decide_true, if_true, ixOk_nat, ck_true, Int.toNat_natCast, wrap_nat1 (show i < 9223372036854775807 by omega)]) (fun d w => by simp [spec_ServedShare_l1])]
      simp only [Option.bind_some]
      rw [lowest_is s1 (by omega) (by omega) (by omega), make_is s1 (by omega) (by omega) (by omega)]
      exact ⟨_, 0, rfl, rfl, fun _ => fracN_in s1 s2 (by omega)⟩

/-! ### What is served -/

def cntT (p : Nat → Bool) (n : Nat) : Nat := ((List.range n).filter p).length

theorem cntT_succ (p : Nat → Bool) (n : Nat) : cntT p (n + 1) = if p n = true then cntT p n + 1 else cntT p n := by
  unfold cntT
  rw [List.range_succ, List.filter_append, List.length_append]
  by_cases h : p n = true <;> simp [h]

theorem cntT_le (p : Nat → Bool) (n : Nat) : cntT p n ≤ n := by
  unfold cntT
  exact Nat.le_trans (List.length_filter_le _ _) (by simp)

theorem more_loop {l : List Request} (hl : l.length ≤ 1000) (hg : goodR l = true) (star : List UInt8) (t : Int) {step : Int × Int → Option ((Int × Int) ⊕ Int)}
    (hs : ∀ (more : Int) (i : Int), step (more, i) = if (decide (i < (l.length : Int))) then
      ck (ixOk i (l.map (srv star t)).length) <|
      ck (ixOk i l.length) <|
      some (.inl ((IntKind.i64.wrap ((IntKind.i64.wrap (more + (((l.map (srv star t)).getD i.toNat default).Done))) - ((l.getD i.toNat default).Done))), (IntKind.i64.wrap (i + 1))))
    else
      some (.inr more)) : whileE step (0, 0) = some ((cntT (fun i => ((l.getD i default).Star == star) && openR (l.getD i default) t) l.length : Nat) : Int) := by
  have := while_up (step := step) (fun i => ((cntT (fun i => ((l.getD i default).Star == star) && openR (l.getD i default) t) i : Nat) : Int)) l.length (r := ((cntT (fun i => ((l.getD i default).Star == star) && openR (l.getD i default) t) l.length : Nat) : Int)) (fun i hi => by
    rw [hs]
    have hm : (l.map (srv star t)).getD i default = srv star t (l.getD i default) := by
      rw [getD_lt (by simpa using hi), getD_lt hi, List.getElem_map]
    obtain ⟨_, a, b, _⟩ := oneR_in (goodR_at hg hi)
    have hc := cntT_le (fun i => ((l.getD i default).Star == star) && openR (l.getD i default) t) i
    simp only [Int.ofNat_lt, hi, decide_true, if_true, ixOk_nat, List.length_map, ck_true, Int.toNat_natCast, hm, wrap_nat1 (show i < 9223372036854775807 by omega)]
    rw [cntT_succ]
    unfold srv
    by_cases c : (((l.getD i default).Star == star) && openR (l.getD i default) t) = true
    · rw [if_pos c, if_pos c]
      simp only
      rw [wrap_i64 (n := _ + _) (by omega) (by omega), wrap_i64 (by omega) (by omega)]
      congr 3; omega
    · rw [if_neg c, if_neg c]
      rw [wrap_i64 (n := _ + _) (by omega) (by omega), wrap_i64 (by omega) (by omega)]
      congr 3; omega) (by rw [hs]; simp)
  exact this

theorem mine_loop {l : List Request} (hl : l.length ≤ 1000) (star : List UInt8) (t : Int) {step : Int × Int → Option ((Int × Int) ⊕ (Int ⊕ Bool))}
    (hs : ∀ (mine : Int) (i : Int), step (mine, i) = if (decide (i < ((opens l t).length : Int))) then
      ck (ixOk i (opens l t).length) <|
      if ((decide (((opens l t).getD i.toNat default) < 0)) || (decide ((l.length : Int) ≤ ((opens l t).getD i.toNat default)))) then
        some (.inr (.inr false))
      else
        ck (ixOk ((opens l t).getD i.toNat default) l.length) <|
        if (((l.getD ((opens l t).getD i.toNat default).toNat default).Star) == star) then
          some (.inl ((IntKind.i64.wrap (mine + 1)), (IntKind.i64.wrap (i + 1))))
        else
          some (.inl (mine, (IntKind.i64.wrap (i + 1))))
    else
      some (.inr (.inl mine))) : whileE step (0, 0) = some (.inl ((cntT (fun i => ((l.getD i default).Star == star) && openR (l.getD i default) t) l.length : Nat) : Int)) := by
  let q : Int → Bool := fun k => (l.getD k.toNat default).Star == star
  have hmem : ∀ x, x ∈ opens l t → 0 ≤ x ∧ x < l.length := by
    intro x hx
    unfold opens keptTo at hx
    obtain ⟨i, hi, rfl⟩ := List.mem_map.1 hx
    have := (List.mem_filter.1 hi).1
    simp at this
    omega
  have hlen : (opens l t).length ≤ 1000 := by
    have := keptTo_len (fun i => openR (l.getD i default) t) (fun i => (i : Int)) l.length
    unfold opens
    omega
  have hn : ∀ i, (((opens l t).take i).filter q).length ≤ i := fun i => Nat.le_trans (List.length_filter_le _ _) (by simp; omega)
  have := while_up (step := step) (fun i => (((((opens l t).take i).filter q).length : Nat) : Int)) (opens l t).length (r := .inl (((((opens l t).take (opens l t).length).filter q).length : Nat) : Int)) (fun i hi => by
    rw [hs]
    obtain ⟨m0, m1⟩ := hmem _ (getD_mem hi default)
    have hi1 := hn i
    have n0 : ¬ (opens l t).getD i default < 0 := by omega
    have n1 : ¬ (l.length : Int) ≤ (opens l t).getD i default := by omega
    simp only [Int.ofNat_lt, hi, decide_true, if_true, ixOk_nat, ck_true, Int.toNat_natCast, wrap_nat1 (show i < 9223372036854775807 by omega), n0, n1, decide_false, Bool.or_self, Bool.false_eq_true, if_false]
    rw [ixOk_of m0 (by omega), ck_true, List.take_succ_eq_append_getElem hi, List.filter_append, List.length_append, ← getD_lt hi default]
    by_cases c : q ((opens l t).getD i default) = true
    · have e1 : ([(opens l t).getD i default].filter q) = [(opens l t).getD i default] := List.filter_cons_of_pos c
      rw [if_pos c, wrap_nat1 (by omega), e1]; rfl
    · have e1 : ([(opens l t).getD i default].filter q) = [] := List.filter_cons_of_neg c
      rw [if_neg c, e1]; rfl) (by rw [hs]; simp)
  have h0 : (((((opens l t).take 0).filter q).length : Nat) : Int) = 0 := by simp
  simp only [h0] at this
  rw [this, List.take_length]
  congr 3
  unfold opens keptTo cntT
  rw [List.filter_map, List.length_map, List.filter_filter]
  congr 1

theorem codeR_zero {l : List Request} {t : Int} : codeR l t = 0 ↔ validR l = true ∧ timeB t = true := by
  unfold codeR
  split
  · rename_i h
    split
    · rename_i h2; simp [h, h2]
    · rename_i h2; simp [h2]
  · rename_i h; simp [h]

theorem law_Served {code : List UInt8} (w : code.length ≤ maxLen) : laws_FnServed code = some true := by
  unfold laws_FnServed laws_f6big
  rw [Option.bind_some]
  by_cases hb : (4096 : Int) < (code.length : Int)
  · simp [hb]
  have hc : code.length ≤ 1099511627776 := by omega
  rw [if_neg (by simpa using hb)]
  obtain ⟨l, n, t, e1, hl⟩ := DrawServeRequests_is hc
  obtain ⟨y, c, hy, e2, e3, k1⟩ := ServeRequests_same (l := l) (by omega) n t
  obtain ⟨l2, es, e4, hl2, hes⟩ := DrawServeEstimates_is hc
  obtain ⟨y2, c2, hy2, e5, e6⟩ := ServeEstimates_same (l := l2) (es := es) (by omega) (by omega)
  obtain ⟨l3, t3, e7, hl3⟩ := DrawExpireRequests_is hc
  obtain ⟨y3, c3, hy3, e8, e9, k3⟩ := ExpireRequests_same (l := l3) (by omega) t3
  obtain ⟨l4, e10, hl4⟩ := DrawServedShare_is hc
  obtain ⟨f, c4, e11, e12, k4⟩ := ServedShare_same (l := l4) (by omega)
  simp only [e1, e2, e3, e4, e5, e6, e7, e8, e9, e10, e11, e12, Option.bind_some, SameRequests_refl hy, SameRequests_refl hy2, SameRequests_refl hy3, Option.isSome_some, Option.getD_some, Bool.or_true, ck_true, beq_self_eq_true, Bool.not_true, Bool.and_self, Bool.or_self, Bool.false_eq_true, if_false]
  have s4 : ((c4 == 0) && ((decide (f.Num < 0)) || (decide (f.Den < f.Num)))) = false := by
    by_cases h : c4 = 0
    · obtain ⟨a, b⟩ := k4 h
      have a' : ¬ f.Num < 0 := by omega
      have b' : ¬ f.Den < f.Num := by omega
      simp [a', b']
    · simp [h]
  rw [s4]
  simp only [Bool.false_eq_true, if_false]
  -- the last part
  have fin : (if (!(c == 0)) then some true else
      (impl_OpenRequests l t).bind fun y_25 =>
              if (!(y_25.2 == 0)) then
                some false
              else
                (whileE (laws_FnServed_l1 l n y y_25.1) (0, 0)).bind fun y_30 =>
                (whileE (laws_FnServed_l2 l n y y_25.1 y_30) (0, 0)).bind fun y_36 =>
                match y_36 with
                | .inl y_36a =>
                  ck (!(y_30 == y_36a) || (impl_ValidRequests y).isSome) <|
                  some ((y_30 == y_36a) && ((impl_ValidRequests y).getD default))
                | .inr y_36b =>
                  some y_36b) = some true := by
    by_cases h : c = 0
    · obtain ⟨v1, v2, rfl⟩ := k1 h
      have hg : goodR l = true := by unfold validR at v1; simp only [Bool.and_eq_true] at v1; exact v1.1
      rw [if_neg (by simp [h]), OpenRequests_is (by omega), Option.bind_some, if_pos (codeR_zero.2 ⟨v1, v2⟩)]
      simp only [beq_self_eq_true, Bool.not_true, Bool.false_eq_true, if_false]
      rw [more_loop (by omega) hg n t (step := laws_FnServed_l1 l n (l.map (srv n t)) (opens l t)) (fun _ _ => id rfl), Option.bind_some,
        mine_loop (by omega) n t (step := laws_FnServed_l2 l n (l.map (srv n t)) (opens l t) _) (fun _ _ => id rfl), Option.bind_some, ValidRequests_is (by simp; omega)]
      have v : validR (l.map (srv n t)) = true := by
        unfold validR at v1 ⊢
        simp only [Bool.and_eq_true, List.length_map] at v1 ⊢
        exact ⟨goodR_map v1.1, v1.2⟩
      simp only [Option.isSome_some, Option.getD_some, Bool.or_true, ck_true, v, beq_self_eq_true, Bool.and_self]
    · rw [if_pos (by simpa using h)]
  have fin' : (if (!(c == 0)) then some true else
      (impl_OpenRequests l t).bind fun y_25 =>
              if (!(y_25.2 == 0)) then
                some false
              else
                (whileE (laws_FnServed_l3 l n y y_25.1) (0, 0)).bind fun y_30 =>
                (whileE (laws_FnServed_l4 l n y y_25.1 y_30) (0, 0)).bind fun y_36 =>
                match y_36 with
                | .inl y_36a =>
                  ck (!(y_30 == y_36a) || (impl_ValidRequests y).isSome) <|
                  some ((y_30 == y_36a) && ((impl_ValidRequests y).getD default))
                | .inr y_36b =>
                  some y_36b) = some true := fin
  by_cases h3 : c3 = 0
  · obtain ⟨k5, rfl⟩ := k3 h3
    obtain ⟨v1, v2⟩ := codeR_zero.1 k5
    have hv : validR (l3.filter (useR t3)) = true := by
      unfold validR at v1 ⊢
      unfold goodR at v1 ⊢
      simp only [Bool.and_eq_true, decide_eq_true_eq, List.all_eq_true] at v1 ⊢
      exact ⟨fun x hx => v1.1 x (List.mem_filter.1 hx).1, Nat.le_trans (List.length_filter_le _ _) v1.2⟩
    have hlen : (opens l3 t3).length = (opens (l3.filter (useR t3)) t3).length := by
      rw [opens_len, opens_len, List.filter_filter]
      congr 1
      apply List.filter_congr
      intro x _
      unfold openR useR
      rw [Bool.eq_iff_iff]
      simp only [Bool.and_eq_true, decide_eq_true_eq]
      constructor
      · rintro ⟨⟨a, b⟩, c⟩; exact ⟨⟨⟨a, b⟩, c⟩, b, c⟩
      · rintro ⟨h, _⟩; exact h
    rw [if_pos (by simpa using h3), OpenRequests_is (by omega), OpenRequests_is (by omega), Option.bind_some, Option.bind_some, if_pos k5, if_pos (codeR_zero.2 ⟨hv, v2⟩)]
    simp only [beq_self_eq_true, Bool.not_true, Bool.or_self, hlen, Bool.false_eq_true, if_false]
    exact fin
  · rw [if_neg (by simpa using h3)]
    exact fin'

end Go.Proofs.Ytibabbjpkjmdeaa
