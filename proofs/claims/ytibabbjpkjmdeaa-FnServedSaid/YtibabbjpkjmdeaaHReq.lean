/- What typed forms say: requests, which are valid, which are open, and how they are served. No condition. -/
import Derived.Test.YtibabbjpkjmdeaaHEst
import Derived.Test.YtibabbjpkjmdeaaHUtil
namespace Go.Proofs.Ytibabbjpkjmdeaa
open Go Go.RowKit
set_option linter.unusedSimpArgs false
set_option linter.unusedVariables false

def openR (x : Request) (t : Int) : Bool := (decide (x.From ≤ t) && decide (t ≤ x.To)) && decide (x.Done < x.Wanted)

def oneR (x : Request) : Bool := ((((nameB x.Star && (decide (0 ≤ x.From) && decide (x.From ≤ 10000000))) && (decide (x.From ≤ x.To) && decide (x.To ≤ 10000000))) && (decide (1 ≤ x.Wanted) && decide (x.Wanted ≤ 100))) && (decide (0 ≤ x.Done) && decide (x.Done ≤ x.Wanted))) && (decide (1 ≤ x.Priority) && decide (x.Priority ≤ 5))

theorem l22One_is (x : Request) : spec_l22One x = some (oneR x) := by
  unfold spec_l22One oneR
  simp only [spec_l03Time, spec_l00In_is, spec_IsName_is, Option.bind_some, Option.isSome_some, Option.getD_some, Bool.or_true, ck_true]

theorem isRequest_is (x : Request) : impl_isRequest x = some (oneR x) := by
  unfold impl_isRequest oneR
  simp only [impl_ValidTime, impl_in_is, impl_IsName_is, Option.bind_some, Option.isSome_some, Option.getD_some, Bool.or_true, ck_true]
  congr 1
  rw [Bool.eq_iff_iff]
  simp only [Bool.and_eq_true, decide_eq_true_eq]
  constructor
  · rintro ⟨⟨⟨⟨h1, ⟨⟨h2, h3⟩, h4, h5⟩, h6⟩, h7⟩, h8⟩, h9⟩
    exact ⟨⟨⟨⟨⟨h1, h2, h3⟩, h6, h5⟩, h7⟩, h8⟩, h9⟩
  · rintro ⟨⟨⟨⟨⟨h1, h2, h3⟩, h6, h5⟩, h7⟩, h8⟩, h9⟩
    exact ⟨⟨⟨⟨h1, ⟨⟨h2, h3⟩, by omega, h5⟩, h6⟩, h7⟩, h8⟩, h9⟩

theorem oneR_in {x : Request} (h : oneR x = true) : (0 ≤ x.From ∧ x.From ≤ x.To ∧ x.To ≤ 10000000) ∧ (1 ≤ x.Wanted ∧ x.Wanted ≤ 100) ∧ (0 ≤ x.Done ∧ x.Done ≤ x.Wanted) ∧ 1 ≤ x.Priority ∧ x.Priority ≤ 5 := by
  unfold oneR at h
  simp only [Bool.and_eq_true, decide_eq_true_eq] at h
  obtain ⟨⟨⟨⟨⟨_, h1, h2⟩, h3, h4⟩, h5⟩, h6⟩, h7⟩ := h
  exact ⟨⟨h1, h3, h4⟩, h5, h6, h7⟩

def goodR (l : List Request) : Bool := l.all oneR
def validR (l : List Request) : Bool := goodR l && decide (l.length ≤ 30)

theorem goodR_iff {l : List Request} : goodR l = true ↔ ∀ i, i < l.length → oneR (l.getD i default) = true := by
  unfold goodR
  rw [List.all_eq_true]
  constructor
  · intro h i hi; exact h _ (getD_mem hi default)
  · intro h x hx
    obtain ⟨i, hi, rfl⟩ := List.getElem_of_mem hx
    rw [← getD_lt hi default]; exact h i hi

theorem goodR_at {l : List Request} (h : goodR l = true) {i : Nat} (hi : i < l.length) : oneR (l.getD i default) = true := goodR_iff.1 h i hi

theorem l22Ok_is {l : List Request} (hl : l.length ≤ 1099511627776) : spec_l22Ok l = some (validR l) := by
  unfold spec_l22Ok validR
  rw [while_all (step := spec_l22Ok_l1 l) (fun i => oneR (l.getD i default)) l.length (goodR l) (yes := .inl ()) (no := .inr false) goodR_iff (fun i hi => by
    simp only [spec_l22Ok_l1, Int.ofNat_lt, hi, decide_true, if_true, ixOk_nat, ck_true, Int.toNat_natCast, l22One_is, Option.bind_some, wrap_nat1 (show i < 9223372036854775807 by omega)]
    cases oneR (l.getD i default) <;> rfl) (by simp [spec_l22Ok_l1])]
  have e : decide ((l.length : Int) ≤ 30) = decide (l.length ≤ 30) := by rw [Bool.eq_iff_iff]; simp; omega
  simp only [Option.bind_some, ite_b]
  cases goodR l <;> simp [e]

theorem ContainsR_is {l : List Request} (hl : l.length ≤ 1099511627776) : slices_ContainsFunc_impl_Request_impl_Request__impl_ValidRequests_c1 l = some (!goodR l) := by
  unfold slices_ContainsFunc_impl_Request_impl_Request__impl_ValidRequests_c1 slices_IndexFunc_impl_Request_impl_Request__impl_ValidRequests_c1
  rw [while_find (step := slices_IndexFunc_impl_Request_impl_Request__impl_ValidRequests_c1_l1 l (l.length : Int)) (fun i => !oneR (l.getD i default)) (fun i => (i : Int)) l.length (fun i hi => by
    simp only [slices_IndexFunc_impl_Request_impl_Request__impl_ValidRequests_c1_l1, impl_ValidRequests_c1, Int.ofNat_lt, hi, decide_true, if_true, ixOk_nat, ck_true, Int.toNat_natCast, isRequest_is, Option.bind_some, wrap_nat1 (show i < 9223372036854775807 by omega)]
    cases oneR (l.getD i default) <;> rfl) (by simp [slices_IndexFunc_impl_Request_impl_Request__impl_ValidRequests_c1_l1])]
  have hf := find_any l (fun x => !oneR x)
  have hn : (!goodR l) = l.any (fun x => !oneR x) := by unfold goodR; simp [List.any_eq_not_all_not]
  rw [hn, ← hf]
  simp only [Option.bind_some]
  cases hc : (List.range l.length).find? (fun i => !oneR (l.getD i default)) with
  | none => simp
  | some j =>
    have : (0 : Int) ≤ (j : Int) := by omega
    simp [this]

theorem ValidRequests_is {l : List Request} (hl : l.length ≤ 1099511627776) : impl_ValidRequests l = some (validR l) := by
  unfold impl_ValidRequests validR
  have e : decide ((l.length : Int) ≤ 30) = decide (l.length ≤ 30) := by rw [Bool.eq_iff_iff]; simp; omega
  rw [ContainsR_is hl, e]
  simp only [Option.isSome_some, Option.getD_some, Bool.or_true, ck_true, Bool.not_not]
  rw [Bool.and_comm]

def timeB (t : Int) : Bool := decide (0 ≤ t) && decide (t ≤ 10000000)
def codeR (l : List Request) (t : Int) : Int := if validR l = true then (if timeB t = true then 0 else 2) else 1

theorem l22Code_is {l : List Request} (hl : l.length ≤ 1099511627776) (t : Int) : spec_l22Code l t = some (codeR l t) := by
  unfold spec_l22Code spec_l03Time codeR
  rw [l22Ok_is hl, spec_l00In_is]
  change (some (validR l)).bind (fun y_1 => if (!y_1) then some 1 else ((some (timeB t)).bind fun y => some y).bind fun y_3 => if (!y_3) then some 2 else some 0) = _
  simp only [Option.bind_some]
  cases validR l <;> cases timeB t <;> rfl

theorem timed_is {l : List Request} (hl : l.length ≤ 1099511627776) (t : Int) : impl_timed l t = some (codeR l t) := by
  unfold impl_timed impl_ValidTime codeR
  rw [ValidRequests_is hl, impl_in_is]
  change (some (validR l)).bind (fun y_1 => if (!y_1) then some 1 else ((some (timeB t)).bind fun y => some y).bind fun y_3 => if (!y_3) then some 2 else some 0) = _
  simp only [Option.bind_some]
  cases validR l <;> cases timeB t <;> rfl

/-! ### A list that is changed in its place -/

def mapTo {α : Type} (g : α → α) (l : List α) (i : Nat) : List α := (l.take i).map g ++ l.drop i

theorem mapTo_len {α : Type} (g : α → α) (l : List α) (i : Nat) : (mapTo g l i).length = l.length := by
  unfold mapTo; simp; omega

theorem mapTo_at {α : Type} [Inhabited α] (g : α → α) {l : List α} {i : Nat} (hi : i < l.length) : (mapTo g l i).getD i default = l.getD i default := by
  unfold mapTo
  rw [List.getD_eq_getElem?_getD, List.getD_eq_getElem?_getD, List.getElem?_append_right (by simp; omega)]
  have : i - (List.map g (List.take i l)).length = 0 := by simp; omega
  rw [this, List.getElem?_drop]; rfl

theorem mapTo_set {α : Type} [Inhabited α] (g : α → α) {l : List α} {i : Nat} (hi : i < l.length) : (mapTo g l i).set i (g (l.getD i default)) = mapTo g l (i + 1) := by
  unfold mapTo
  have hl : (List.map g (List.take i l)).length = i := by simp; omega
  rw [List.set_append_right _ _ (by omega), hl, Nat.sub_self, List.drop_eq_getElem_cons hi, List.set_cons_zero, List.take_succ_eq_append_getElem hi, List.map_append, List.append_assoc, getD_lt hi]
  rfl

theorem mapTo_same {α : Type} [Inhabited α] (g : α → α) {l : List α} {i : Nat} (hi : i < l.length) (hg : g (l.getD i default) = l.getD i default) : mapTo g l i = mapTo g l (i + 1) := by
  rw [← mapTo_set g hi, hg, ← mapTo_at g hi]
  apply List.ext_getElem?
  intro j
  rw [List.getElem?_set]
  split
  · rename_i e
    subst e
    have : i < (mapTo g l i).length := by rw [mapTo_len]; exact hi
    rw [if_pos this, getD_lt this, List.getElem?_eq_getElem this]
  · rfl

theorem mapTo_all {α : Type} (g : α → α) (l : List α) : mapTo g l l.length = l.map g := by
  unfold mapTo; simp

/-! ### Requests are served -/

def srv (star : List UInt8) (t : Int) (x : Request) : Request := if ((x.Star == star) && openR x t) = true then { x with Done := x.Done + 1 } else x

theorem srv_one {star : List UInt8} {t : Int} {x : Request} (h : oneR x = true) : oneR (srv star t x) = true := by
  unfold srv
  split
  · rename_i hc
    have hd : x.Done < x.Wanted := by
      unfold openR at hc
      simp only [Bool.and_eq_true, decide_eq_true_eq] at hc
      exact hc.2.2
    obtain ⟨_, _, h3, _⟩ := oneR_in h
    unfold oneR at h ⊢
    simp only [Bool.and_eq_true, decide_eq_true_eq] at h ⊢
    obtain ⟨⟨⟨⟨⟨a1, a2⟩, a3⟩, a4⟩, a5⟩, a6⟩ := h
    exact ⟨⟨⟨⟨⟨a1, a2⟩, a3⟩, a4⟩, by omega, by omega⟩, a6⟩
  · exact h

theorem goodR_map {star : List UInt8} {t : Int} {l : List Request} (h : goodR l = true) : goodR (l.map (srv star t)) = true := by
  unfold goodR at h ⊢
  rw [List.all_eq_true] at h ⊢
  intro x hx
  obtain ⟨y, hy, rfl⟩ := List.mem_map.1 hx
  exact srv_one (h y hy)

theorem open_is (x : Request) (t : Int) : spec_l22Open x t = some (openR x t) ∧ impl_Request_open x t = some (openR x t) := ⟨id rfl, id rfl⟩

theorem serve_loop {l : List Request} (hl : l.length ≤ 1000000) (hg : goodR l = true) (star : List UInt8) (t : Int) : whileE (spec_l22Serve_l1 star t) (l, 0) = some (l.map (srv star t)) := by
  have h0 : l = mapTo (srv star t) l 0 := by simp [mapTo]
  have := while_up (step := spec_l22Serve_l1 star t) (fun i => mapTo (srv star t) l i) l.length (r := l.map (srv star t)) (fun i hi => by
    have w := oneR_in (goodR_at hg hi)
    simp only [spec_l22Serve_l1, mapTo_len, Int.ofNat_lt, hi, decide_true, if_true, ixOk_nat, ck_true, Int.toNat_natCast, mapTo_at (srv star t) hi, (open_is _ _).1, Option.isSome_some, Option.getD_some, Bool.or_true, wrap_nat1 (show i < 9223372036854775807 by omega)]
    have w1 : IntKind.i64.wrap ((l.getD i default).Done + 1) = (l.getD i default).Done + 1 := wrap_i64 (by omega) (by omega)
    by_cases hc : (((l.getD i default).Star == star) && openR (l.getD i default) t) = true
    · rw [if_pos hc, w1]
      have : (Request.mk (l.getD i default).Star (l.getD i default).From (l.getD i default).To (l.getD i default).Wanted ((l.getD i default).Done + 1) (l.getD i default).Priority) = srv star t (l.getD i default) := by
        unfold srv; rw [if_pos hc]
      rw [this, mapTo_set (srv star t) hi]
    · rw [if_neg hc, mapTo_same (srv star t) hi (by unfold srv; rw [if_neg hc])]) (by simp [spec_l22Serve_l1, mapTo_len, mapTo_all])
  rw [← h0] at this
  exact this

theorem serve_same {l : List Request} (hl : l.length ≤ 1000000) (hg : goodR l = true) (star : List UInt8) (t : Int) : spec_l22Serve l star t = some (l.map (srv star t)) ∧ impl_serve l star t = some (l.map (srv star t)) := by
  have h := serve_loop hl hg star t
  constructor
  · unfold spec_l22Serve
    rw [h, Option.bind_some, List.length_map, beq_self_eq_true, ck_true]
  · unfold impl_serve
    rw [while_congr (step' := spec_l22Serve_l1 star t) (fun s => s.1.length = l.length) (fun s hs => by
      obtain ⟨x, i⟩ := s
      simp only at hs
      simp only [impl_serve_l1, spec_l22Serve_l1, hs, (open_is _ _).1, (open_is _ _).2]) (fun s s' hs e => by
      obtain ⟨x, i⟩ := s
      simp only at hs
      simp only [impl_serve_l1] at e
      split at e
      · obtain ⟨_, e⟩ := ck_some e
        obtain ⟨_, e⟩ := ck_some e
        split at e
        · cases e; simpa using hs
        · cases e; exact hs
      · cases e) (s := (l, 0)) rfl, h, Option.bind_some, List.length_map, beq_self_eq_true, ck_true]

theorem copyR_is {l : List Request} (hl : l.length ≤ 1000000) : impl_copyOf_impl_Request l = some l := by
  unfold impl_copyOf_impl_Request
  rw [appOk_of (by simp; omega), ck_true]; rfl

theorem ServeRequests_same {l : List Request} (hl : l.length ≤ 1000000) (star : List UInt8) (t : Int) : ∃ y c, y.length ≤ 1000000 ∧ impl_ServeRequests l star t = some (y, c) ∧ spec_ServeRequests l star t = some (y, c) ∧ (c = 0 → validR l = true ∧ timeB t = true ∧ y = l.map (srv star t)) := by
  have ap : appOk (([] : List Request).length + l.length) 56 = true := appOk_of (by simp; omega)
  unfold impl_ServeRequests spec_ServeRequests
  rw [ValidRequests_is (by omega), l22Code_is (by omega), impl_IsName_is, spec_IsName_is]
  have e : impl_ValidTime t = some (timeB t) := id rfl
  simp only [Option.bind_some, e, Option.isSome_some, Option.getD_some, Bool.or_true, ck_true, ap, List.nil_append, copyR_is hl]
  unfold codeR
  cases hv : validR l
  · exact ⟨[], 1, by simp, rfl, by cases nameB star <;> rfl, fun h => by cases h⟩
  · have hg : goodR l = true := by unfold validR at hv; simp only [Bool.and_eq_true] at hv; exact hv.1
    cases ht : timeB t
    · exact ⟨[], 2, by simp, rfl, by cases nameB star <;> rfl, fun h => by cases h⟩
    · cases hn : nameB star
      · exact ⟨[], 2, by simp, rfl, rfl, fun h => by cases h⟩
      · refine ⟨l.map (srv star t), 0, by simpa using hl, ?_, ?_, fun _ => ⟨rfl, rfl, rfl⟩⟩
        · simp only [Bool.not_true, Bool.false_eq_true, if_false, Bool.or_self, (serve_same hl hg star t).2, Option.bind_some]
        · simp only [Bool.not_true, Bool.and_false, Bool.false_eq_true, if_false, if_true, beq_self_eq_true, (serve_same hl hg star t).1, Option.bind_some]

def srvAll (l : List Request) (es : List Estimate) : List Request := es.foldl (fun l e => l.map (srv e.Star e.Time)) l

theorem srvAll_good {l : List Request} (h : goodR l = true) : ∀ es : List Estimate, goodR (srvAll l es) = true ∧ (srvAll l es).length = l.length := by
  intro es
  induction es generalizing l with
  | nil => exact ⟨h, rfl⟩
  | cons e es ih =>
    obtain ⟨h1, h2⟩ := ih (goodR_map (star := e.Star) (t := e.Time) h)
    exact ⟨h1, by show (srvAll (l.map _) es).length = _; rw [h2, List.length_map]⟩

theorem ServeEstimates_same {l : List Request} {es : List Estimate} (hl : l.length ≤ 1000000) (he : es.length ≤ 1000000) : ∃ y c, y.length ≤ 1000000 ∧ impl_ServeEstimates l es = some (y, c) ∧ spec_ServeEstimates l es = some (y, c) := by
  have ap : appOk (([] : List Request).length + l.length) 56 = true := appOk_of (by simp; omega)
  unfold impl_ServeEstimates spec_ServeEstimates
  rw [ValidRequests_is (by omega), l22Ok_is (by omega), ValidEstimates_is (by omega), l06Ok_is (by omega)]
  simp only [Option.bind_some, Option.isSome_some, Option.getD_some, Bool.or_true, ck_true, ap, List.nil_append, copyR_is hl]
  cases hv : validR l
  · exact ⟨[], 1, by simp, rfl, rfl⟩
  · have hg : goodR l = true := by unfold validR at hv; simp only [Bool.and_eq_true] at hv; exact hv.1
    generalize (goodE es && decide (es.length ≤ 100)) = b
    cases b
    · exact ⟨[], 1, by simp, rfl, rfl⟩
    · have step : ∀ i, i < es.length → (srvAll l (es.take i)).map (srv (es.getD i default).Star (es.getD i default).Time) = srvAll l (es.take (i + 1)) := by
        intro i hi
        unfold srvAll
        rw [List.take_succ_eq_append_getElem hi, List.foldl_append, getD_lt hi]; rfl
      have hs : ∀ i, goodR (srvAll l (es.take i)) = true ∧ (srvAll l (es.take i)).length ≤ 1000000 := fun i => by
        obtain ⟨h1, h2⟩ := srvAll_good hg (es.take i)
        exact ⟨h1, by omega⟩
      have a := while_up (step := impl_ServeEstimates_l1 es (es.length : Int)) (fun i => srvAll l (es.take i)) es.length (r := srvAll l es) (fun i hi => by
        simp only [impl_ServeEstimates_l1, Int.ofNat_lt, hi, decide_true, if_true, ixOk_nat, ck_true, Int.toNat_natCast, (serve_same (hs i).2 (hs i).1 _ _).2, Option.bind_some, wrap_nat1 (show i < 9223372036854775807 by omega), step i hi]) (by simp [impl_ServeEstimates_l1])
      have b := while_up (step := spec_ServeEstimates_l1 es) (fun i => srvAll l (es.take i)) es.length (r := srvAll l es) (fun i hi => by
        simp only [spec_ServeEstimates_l1, Int.ofNat_lt, hi, decide_true, if_true, ixOk_nat, ck_true, Int.toNat_natCast, (serve_same (hs i).2 (hs i).1 _ _).1, Option.bind_some, wrap_nat1 (show i < 9223372036854775807 by omega), step i hi]) (by simp [spec_ServeEstimates_l1])
      have z : srvAll l (es.take 0) = l := rfl
      simp only [z] at a b
      refine ⟨srvAll l es, 0, by rw [(srvAll_good hg es).2]; exact hl, ?_, ?_⟩
      · simp only [Bool.not_true, Bool.or_self, Bool.false_eq_true, if_false, a, Option.bind_some]
      · simp only [Bool.not_true, Bool.or_self, Bool.false_eq_true, if_false, b, Option.bind_some]

/-! ### Requests that are still of use, and open ones -/

theorem kept_filter {α : Type} [Inhabited α] (q : α → Bool) (l : List α) : keptTo (α := α) (fun i => q (l.getD i default)) (fun i => l.getD i default) l.length = l.filter q := by
  have h : (List.range l.length).map (fun i => l.getD i default) = l := by
    apply List.ext_getElem
    · simp
    · intro i h1 h2
      rw [List.getElem_map, List.getElem_range, getD_lt h2]
  unfold keptTo
  conv => rhs; rw [← h]
  rw [List.filter_map]; rfl

def useR (t : Int) (x : Request) : Bool := decide (t ≤ x.To) && decide (x.Done < x.Wanted)

theorem expire_step (l : List Request) (t : Int) : impl_chosen_impl_Request__impl_ExpireRequests_c1_l1 t l (l.length : Int) = spec_ExpireRequests_l1 l t := id rfl

theorem expire_loop {l : List Request} (hl : l.length ≤ 1000000) (t : Int) : whileE (spec_ExpireRequests_l1 l t) (([] : List Request), 0) = some (l.filter (useR t)) := by
  have := while_keep (step := spec_ExpireRequests_l1 l t) (fun i => useR t (l.getD i default)) (fun i => l.getD i default) l.length (r := l.filter (useR t)) (fun out i hi ho => by
    simp only [spec_ExpireRequests_l1, Int.ofNat_lt, hi, decide_true, if_true, ixOk_nat, ck_true, Int.toNat_natCast, wrap_nat1 (show i < 9223372036854775807 by omega)]
    rw [appOk_of (by simp; omega), ck_true]
    show (if useR t (l.getD i default) = true then _ else _) = _
    split <;> rfl) (by
    have e := kept_filter (useR t) l
    unfold keptTo at e ⊢
    rw [e]; simp [spec_ExpireRequests_l1])
  exact this

theorem ExpireRequests_same {l : List Request} (hl : l.length ≤ 1000000) (t : Int) : ∃ y c, y.length ≤ 1000000 ∧ impl_ExpireRequests l t = some (y, c) ∧ spec_ExpireRequests l t = some (y, c) ∧ (c = 0 → codeR l t = 0 ∧ y = l.filter (useR t)) := by
  unfold impl_ExpireRequests spec_ExpireRequests impl_chosen_impl_Request__impl_ExpireRequests_c1
  rw [timed_is (by omega), l22Code_is (by omega), expire_step, expire_loop hl]
  simp only [Option.bind_some]
  by_cases hc : codeR l t = 0
  · rw [if_neg (by simp [hc])]
    exact ⟨_, 0, Nat.le_trans (List.length_filter_le _ _) hl, rfl, rfl, fun _ => ⟨hc, rfl⟩⟩
  · rw [if_pos (by simp [hc])]
    exact ⟨[], _, by simp, rfl, rfl, fun h => absurd h hc⟩

def opens (l : List Request) (t : Int) : List Int := keptTo (α := Int) (fun i => openR (l.getD i default) t) (fun i => (i : Int)) l.length

theorem open_loop {l : List Request} (hl : l.length ≤ 1000000) (t : Int) : whileE (impl_indicesWhere__impl_OpenRequests_c1_l1 l t (l.length : Int)) (([] : List Int), 0) = some (opens l t) := by
  exact while_keep (step := impl_indicesWhere__impl_OpenRequests_c1_l1 l t (l.length : Int)) (fun i => openR (l.getD i default) t) (fun i => (i : Int)) l.length (r := opens l t) (fun out i hi ho => by
    simp only [impl_indicesWhere__impl_OpenRequests_c1_l1, impl_OpenRequests_c1, (open_is _ _).2, Int.ofNat_lt, hi, decide_true, if_true, ixOk_nat, ck_true, Int.toNat_natCast, Option.bind_some, wrap_nat1 (show i < 9223372036854775807 by omega)]
    rw [appOk_of (by simp; omega), ck_true]
    split <;> rfl) (by simp [impl_indicesWhere__impl_OpenRequests_c1_l1, opens, keptTo])

theorem OpenRequests_is {l : List Request} (hl : l.length ≤ 1000000) (t : Int) : impl_OpenRequests l t = some (if codeR l t = 0 then (opens l t, 0) else ([], codeR l t)) := by
  unfold impl_OpenRequests impl_indicesWhere__impl_OpenRequests_c1
  rw [timed_is (by omega), Option.bind_some, open_loop hl]
  by_cases hc : codeR l t = 0
  · rw [if_neg (by simp [hc]), if_pos hc]; rfl
  · rw [if_pos (by simp [hc]), if_neg hc]

theorem opens_len (l : List Request) (t : Int) : (opens l t).length = (l.filter (openR · t)).length := by
  rw [← kept_filter (openR · t) l]
  unfold opens keptTo
  rw [List.length_map, List.length_map]

theorem SameRequests_refl {l : List Request} (hl : l.length ≤ 1000000) : spec_SameRequests l l = some true := by
  unfold spec_SameRequests
  rw [if_neg (by simp), while_all (step := spec_SameRequests_l1 l l) (fun _ => true) l.length true (yes := .inl ()) (no := .inr false) (by simp) (fun i hi => by
    simp only [spec_SameRequests_l1, Int.ofNat_lt, hi, decide_true, if_true, ixOk_nat, ck_true, Int.toNat_natCast, wrap_nat1 (show i < 9223372036854775807 by omega), beq_self_eq_true, Bool.and_self, Bool.not_true, Bool.false_eq_true, if_false]) (by simp [spec_SameRequests_l1])]
  rfl

end Go.Proofs.Ytibabbjpkjmdeaa
