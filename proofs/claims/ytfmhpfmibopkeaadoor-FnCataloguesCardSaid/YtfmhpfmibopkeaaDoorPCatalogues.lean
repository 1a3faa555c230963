/- The plain law of FnCatalogues. No condition. -/
import Derived.Test.YtfmhpfmibopkeaaDoorHStarI
import Derived.Test.YtfmhpfmibopkeaaDoorHOrd
import Derived.Test.YtfmhpfmibopkeaaDoorHDecI
namespace Go.Proofs.YtfmhpfmibopkeaaDoor
open Go Go.RowKit
set_option linter.unusedSimpArgs false
set_option linter.unusedVariables false

theorem goodS_one {l : List Star} (h : goodS l = true) : ∀ i, i < l.length → oneS (l.getD i default) = true := fun i hi => (goodS_iff.1 h i hi).1

theorem copyS_is {l : List Star} (hl : l.length ≤ 1000000) : impl_copyOf_impl_Star l = some l := by
  unfold impl_copyOf_impl_Star
  rw [appOk_of (by simp; omega), ck_true]
  rfl

theorem findS_has {l : List Star} {n : List UInt8} (h : hasS l n = false) : findS l n = none := by
  unfold findS
  rw [List.find?_eq_none]
  intro i hi
  have hi' : i < l.length := by simpa using hi
  unfold hasS at h
  rw [← Bool.not_eq_true, List.any_eq_true] at h
  intro c
  exact h ⟨_, getD_mem hi' default, c⟩

/-- A star is added. -/
theorem Add_is {l : List Star} (hg : goodS l = true) (hl : l.length ≤ 6) {x : Star} (hx : oneS x = true) : (hasS l x.Name = true ∧ impl_AddStar l x = some ([], 4)) ∨
    ∃ k : Nat, impl_AddStar l x = some (putS l k x, 0) ∧ placed l x.Name k := by
  unfold impl_AddStar
  have hv : (goodS l && decide (l.length ≤ 60)) = true := by rw [hg]; simp; omega
  rw [ValidStars_is (by omega), hv, Option.bind_some, isStar_is, hx, Option.bind_some, hasStar_is (by omega), Option.bind_some]
  simp only [Bool.not_true, Bool.false_eq_true, if_false]
  cases h : hasS l x.Name
  · right
    obtain ⟨k, e1, hp⟩ := insert_loop (l := l) (by omega) hg (x := x) (findS_has h)
    refine ⟨k, ?_, hp⟩
    have h60 : ((l.length : Int) == 60) = false := by simp; omega
    simp only [h60, Bool.false_eq_true, if_false]
    unfold impl_inserted_impl_Star__impl_starName
    rw [e1, Option.bind_some, copyS_is (by omega), Option.bind_some]
    unfold hIns
    have hk := hp.1
    rw [if_pos (by simp [insOk]; omega)]
    simp only [Option.bind_some, Int.toNat_natCast]
    rfl
  · left
    exact ⟨rfl, rfl⟩

theorem Named_is {l : List Star} (hg : goodS l = true) (hl : l.length ≤ 60) {k : Nat} (hk : k < l.length) : impl_StarNamed l (l.getD k default).Name = some ((k : Int), 0) := by
  unfold impl_StarNamed impl_indexOf_impl_Star__impl_StarNamed_c1 slices_IndexFunc_impl_Star_impl_Star__impl_StarNamed_c1
  have hv : (goodS l && decide (l.length ≤ 60)) = true := by rw [hg]; simp; omega
  have hf : findS l (l.getD k default).Name = some k := findS_of hk rfl fun i hi => fun c => by
    have := up_lt' hg hi hk
    rw [c] at this
    exact ltV_irr _ this
  rw [ValidStars_is (by omega), hv, Option.bind_some]
  simp only [Bool.not_true, Bool.false_eq_true, if_false]
  rw [while_find (step := slices_IndexFunc_impl_Star_impl_Star__impl_StarNamed_c1_l1 l (l.getD k default).Name (l.length : Int)) (fun i => (l.getD i default).Name == (l.getD k default).Name) (fun j => (j : Int)) l.length (fun i hi => by
    simp only [slices_IndexFunc_impl_Star_impl_Star__impl_StarNamed_c1_l1, impl_StarNamed_c1, Int.ofNat_lt, hi, decide_true, if_true, ixOk_nat, ck_true, Int.toNat_natCast, Option.bind_some, wrap_nat1 (show i < 9223372036854775807 by omega)]
    cases ((l.getD i default).Name == (l.getD k default).Name) <;> rfl) (by simp [slices_IndexFunc_impl_Star_impl_Star__impl_StarNamed_c1_l1])]
  unfold findS at hf
  rw [hf]
  have e : decide ((0 : Int) ≤ (k : Int)) = true := decide_eq_true (by omega)
  simp only [Option.bind_some, e, if_true]

/-! ### Is a number in a list -/

theorem has_is {l : List Int} (hl : l.length ≤ 1000000) (n : Int) : laws_a2Has l n = some (decide (n ∈ l)) := by
  unfold laws_a2Has
  rw [while_all (step := laws_a2Has_l1 l n) (fun i => !(l.getD i default == n)) l.length (!decide (n ∈ l)) (yes := .inl ()) (no := .inr true) (by
    rw [Bool.not_eq_true', decide_eq_false_iff_not]
    constructor
    · intro h i hi
      rw [Bool.not_eq_true', beq_eq_false_iff_ne]
      exact fun c => h (by rw [← c]; exact getD_mem hi default)
    · intro h c
      obtain ⟨i, hi, e⟩ := List.mem_iff_getElem.1 c
      have := h i hi
      rw [getD_lt hi, e] at this
      simp at this) (fun i hi => by
    simp only [laws_a2Has_l1, Int.ofNat_lt, hi, decide_true, if_true, ixOk_nat, ck_true, Int.toNat_natCast, wrap_nat1 (show i < 9223372036854775807 by omega)]
    cases (l.getD i default == n) <;> rfl) (by simp [laws_a2Has_l1])]
  cases decide (n ∈ l) <;> rfl

/-! ### What is seen -/

def seenS (l : List Star) (m : Int) : List Int := keptTo (α := Int) (fun i => decide ((l.getD i default).Bright ≤ m) && decide (m ≤ (l.getD i default).Faint)) (fun i => (i : Int)) l.length

theorem Visible_is {l : List Star} (hg : goodS l = true) (hl : l.length ≤ 60) {m : Int} (h0 : -2000 ≤ m) (h1 : m ≤ 20000) : impl_VisibleAt l m = some (seenS l m, 0) := by
  have a : whileE (impl_indicesWhere__impl_VisibleAt_c1_l1 m l (l.length : Int)) (([] : List Int), 0) = some (seenS l m) :=
    while_keep (step := impl_indicesWhere__impl_VisibleAt_c1_l1 m l (l.length : Int)) (fun i => decide ((l.getD i default).Bright ≤ m) && decide (m ≤ (l.getD i default).Faint)) (fun i => (i : Int)) l.length (r := seenS l m) (fun out i hi ho => by
      simp only [impl_indicesWhere__impl_VisibleAt_c1_l1, impl_VisibleAt_c1, impl_in_is, Int.ofNat_lt, hi, decide_true, if_true, ixOk_nat, ck_true, Int.toNat_natCast, Option.bind_some, wrap_nat1 (show i < 9223372036854775807 by omega)]
      rw [appOk_of (by simp; omega), ck_true]
      split <;> rfl) (by simp [impl_indicesWhere__impl_VisibleAt_c1_l1, seenS, keptTo])
  have hv : (goodS l && decide (l.length ≤ 60)) = true := by rw [hg]; simp; omega
  have hm : impl_ValidMag m = some true := by unfold impl_ValidMag; rw [impl_in_is]; simp [h0, h1]
  unfold impl_VisibleAt impl_indicesWhere__impl_VisibleAt_c1
  rw [ValidStars_is (by omega), hv, Option.bind_some, hm, Option.bind_some, a]
  rfl

theorem seen_self {l : List Star} {k : Nat} (hk : k < l.length) (h : (l.getD k default).Bright ≤ (l.getD k default).Faint) : (k : Int) ∈ seenS l (l.getD k default).Faint := by
  unfold seenS keptTo
  exact List.mem_map.2 ⟨k, List.mem_filter.2 ⟨by simpa using hk, by rw [Bool.and_eq_true, decide_eq_true_eq, decide_eq_true_eq]; exact ⟨h, Int.le_refl _⟩⟩, rfl⟩

/-! ### The text of a position -/

theorem padded_is {n : Int} (h0 : 0 ≤ n) (h1 : n ≤ 1000000) : ∃ s, impl_padded n 2 = some s ∧ s.length ≤ 23 := by
  unfold impl_padded
  rw [Decimal_is ⟨by omega, by omega⟩, Option.bind_some]
  have hlen := itoa_len (n := n) ⟨by omega, by omega⟩
  obtain ⟨y, hy, q⟩ := while_post (step := impl_padded_l1 2) (fun s => s.length ≤ 23) (fun y => y.length ≤ 23) (fun s => 2 - s.length) (by
    intro s hs
    by_cases c : (s.length : Int) < 2
    · left
      refine ⟨[48] ++ s, ?_, by simp; omega, by simp; omega⟩
      unfold impl_padded_l1
      rw [if_pos (decide_eq_true c), catOk_of (by simp; omega), ck_true]
    · right
      exact ⟨s, by unfold impl_padded_l1; rw [if_neg (by simpa using c)], hs⟩) (s := Lib.itoa n) (by omega)
  rw [hy]
  exact ⟨y, rfl, q⟩

theorem sexa_is {n : Int} (h0 : 0 ≤ n) (h1 : n ≤ 1000000) : ∃ s, impl_sexagesimal n = some s ∧ s.length ≤ 1000 := by
  unfold impl_sexagesimal
  have a1 : IntKind.i64.wrap (n.tdiv 3600) = n / 3600 := by rw [Int.tdiv_eq_ediv_of_nonneg h0]; exact wrap_i64 (by omega) (by omega)
  have a2 : IntKind.i64.wrap (n.tdiv 60) = n / 60 := by rw [Int.tdiv_eq_ediv_of_nonneg h0]; exact wrap_i64 (by omega) (by omega)
  have a3 : (n / 60).tmod 60 = (n / 60) % 60 := Int.tmod_eq_emod_of_nonneg (by omega)
  have a4 : n.tmod 60 = n % 60 := Int.tmod_eq_emod_of_nonneg h0
  obtain ⟨s1, e1, l1⟩ := padded_is (n := n / 3600) (by omega) (by omega)
  obtain ⟨s2, e2, l2⟩ := padded_is (n := (n / 60) % 60) (by omega) (by omega)
  obtain ⟨s3, e3, l3⟩ := padded_is (n := n % 60) (by omega) (by omega)
  rw [a1, a2, a3, a4, nz_of (by omega), ck_true, e1, Option.bind_some, nz_of (by omega), ck_true, e2, Option.bind_some, e3, Option.bind_some]
  have hj : (Lib.join [s1, s2, s3] [58]).length ≤ 1000 := by simp [Lib.join, List.intercalate]; omega
  unfold hJoin joinOk
  rw [if_pos (by simp only [List.length_cons, List.length_nil, Bool.and_eq_true, decide_eq_true_eq]; omega)]
  exact ⟨_, rfl, hj⟩

theorem Position_is {x : Star} (hx : oneS x = true) : ∃ s, impl_PositionText x = some s ∧ s ≠ [] := by
  obtain ⟨_, a0, a1, d0, d1, _⟩ := oneS_in hx
  unfold impl_PositionText
  rw [isStar_is, hx, Option.bind_some]
  simp only [Bool.not_true, Bool.false_eq_true, if_false]
  obtain ⟨s, e, hs⟩ := sexa_is a0 (show x.Ascend ≤ 1000000 by omega)
  by_cases c : x.Decl < 0
  · have w : IntKind.i64.wrap (0 - x.Decl) = 0 - x.Decl := wrap_i64 (by omega) (by omega)
    obtain ⟨t, e2, ht⟩ := sexa_is (n := 0 - x.Decl) (by omega) (by omega)
    have ea : impl_abs x.Decl = some (0 - x.Decl) := by unfold impl_abs; rw [if_pos (decide_eq_true c), w]
    rw [if_pos (decide_eq_true c), e, Option.bind_some, catOk_of (by simp; omega), ck_true, ea, Option.bind_some, e2, Option.bind_some, catOk_of (by simp; omega), ck_true]
    exact ⟨_, rfl, by simp⟩
  · obtain ⟨t, e2, ht⟩ := sexa_is (n := x.Decl) (by omega) (by omega)
    have ea : impl_abs x.Decl = some x.Decl := by unfold impl_abs; rw [if_neg (by simpa using c)]
    rw [if_neg (by simpa using c), e, Option.bind_some, catOk_of (by simp; omega), ck_true, ea, Option.bind_some, e2, Option.bind_some, catOk_of (by simp; omega), ck_true]
    exact ⟨_, rfl, by simp⟩

/-! ### The law -/

theorem cat_loop {l : List Star} (hg : goodS l = true) (hl : l.length ≤ 60) {o : List Nat} (ho : o.length = l.length) (hn : o.Nodup) (hk : ∀ k ∈ o, k < l.length) (hs : o.Pairwise fun x y => ampS l x ≤ ampS l y) :
    whileE (laws_FnCatalogues_l1 l (o.map fun i : Nat => (i : Int))) 0 = some (.inl ()) := by
  have hlen : (o.map fun i : Nat => (i : Int)).length = o.length := by simp
  have hget : ∀ i, i < o.length → (o.map fun i : Nat => (i : Int)).getD i default = ((o.getD i default : Nat) : Int) := fun i hi => by
    rw [List.getD_eq_getElem?_getD, List.getElem?_map, List.getElem?_eq_getElem hi, getD_lt hi]; rfl
  rw [while_all (step := laws_FnCatalogues_l1 l (o.map fun i : Nat => (i : Int))) (fun _ => true) (o.map fun i : Nat => (i : Int)).length true (yes := .inl ()) (no := .inr false) (by simp) (fun i hi => by
    rw [hlen] at hi
    obtain ⟨k, hkk⟩ : ∃ k, o.getD i default = k := ⟨_, rfl⟩
    have hkm : k < l.length := by rw [← hkk]; exact hk _ (getD_mem hi default)
    have hone := goodS_one hg k hkm
    obtain ⟨_, _, _, _, _, b0, f1, bf⟩ := oneS_in hone
    have gi := hget i hi
    rw [hkk] at gi
    have g1 : decide ((k : Int) < 0) = false := decide_eq_false (by omega)
    have g2 : decide ((l.length : Int) ≤ (k : Int)) = false := decide_eq_false (by omega)
    have cutO : cutOk 0 (i : Int) (o.map fun i : Nat => (i : Int)).length = true := cutOk_of (by omega) (by omega) (by rw [hlen]; omega)
    have hcut : cut (o.map fun i : Nat => (i : Int)) 0 (i : Int) = (o.take i).map fun i : Nat => (i : Int) := by
      simp [cut, List.map_take]
    have hnot : laws_a2Has (cut (o.map fun i : Nat => (i : Int)) 0 (i : Int)) (k : Int) = some false := by
      rw [hcut, has_is (by simp; omega)]
      congr 1
      rw [decide_eq_false_iff_not]
      intro c
      obtain ⟨q, hq, e⟩ := List.mem_map.1 c
      have e : q = k := by omega
      subst e
      obtain ⟨j, hj, e⟩ := List.mem_iff_getElem.1 hq
      rw [List.length_take] at hj
      rw [List.getElem_take] at e
      have := List.pairwise_iff_getElem.1 hn j i (by omega) hi (by omega)
      rw [e, ← getD_lt hi default, hkk] at this
      exact this rfl
    obtain ⟨pt, ep, hpt⟩ := Position_is hone
    have hsee := Visible_is hg hl (m := (l.getD k default).Faint) (by omega) f1
    have hself : laws_a2Has (seenS l (l.getD k default).Faint) (k : Int) = some true := by
      have := keptTo_len (fun i => decide ((l.getD i default).Bright ≤ (l.getD k default).Faint) && decide ((l.getD k default).Faint ≤ (l.getD i default).Faint)) (fun i => (i : Int)) l.length
      rw [has_is (by unfold seenS; omega)]
      congr 1
      exact decide_eq_true (seen_self hkm bf)
    have okk : ixOk (k : Int) l.length = true := by rw [ixOk_nat]; exact decide_eq_true hkm
    have ep' : (pt == ([] : List UInt8)) = false := by simpa using hpt
    unfold laws_FnCatalogues_l1
    dsimp only
    rw [if_pos (decide_eq_true (by rw [hlen]; omega)), ixOk_nat, hlen, decide_eq_true hi, ck_true]
    rw [hlen] at cutO
    simp only [Int.toNat_natCast, gi, g1, g2, cutO, hnot, Bool.or_true, ck_true, Option.isSome_some, Option.getD_some, Bool.or_self, Bool.false_eq_true, if_false, if_true, okk, hsee, Option.bind_some, hself, ep, ep', beq_self_eq_true, Bool.not_true]
    rw [wrap_nat1 (by omega)]
    by_cases h0 : 0 < i
    · have e0 : decide ((0 : Int) < (i : Int)) = true := by simpa using h0
      obtain ⟨j, hjj⟩ : ∃ j, o.getD (i - 1) default = j := ⟨_, rfl⟩
      have hi1 : i - 1 < o.length := by omega
      have hjm : j < l.length := by rw [← hjj]; exact hk _ (getD_mem hi1 default)
      have gj := hget (i - 1) hi1
      rw [hjj] at gj
      have w1 : IntKind.i64.wrap ((i : Int) - 1) = ((i - 1 : Nat) : Int) := by rw [wrap_i64 (by omega) (by omega)]; omega
      obtain ⟨_, _, _, _, _, b0', f1', bf'⟩ := oneS_in (goodS_one hg j hjm)
      have okj : ixOk (j : Int) l.length = true := by rw [ixOk_nat]; exact decide_eq_true hjm
      have oki : ixOk ((i - 1 : Nat) : Int) o.length = true := by rw [ixOk_nat]; exact decide_eq_true hi1
      have ord := List.pairwise_iff_getElem.1 hs (i - 1) i hi1 hi (by omega)
      rw [← getD_lt hi1 default, ← getD_lt hi default, hjj, hkk] at ord
      unfold ampS at ord
      have wj : IntKind.i64.wrap ((l.getD j default).Faint - (l.getD j default).Bright) = (l.getD j default).Faint - (l.getD j default).Bright := wrap_i64 (by omega) (by omega)
      have wk : IntKind.i64.wrap ((l.getD k default).Faint - (l.getD k default).Bright) = (l.getD k default).Faint - (l.getD k default).Bright := wrap_i64 (by omega) (by omega)
      have lt : decide ((l.getD j default).Faint - (l.getD j default).Bright < (l.getD k default).Faint - (l.getD k default).Bright) = false := decide_eq_false (by omega)
      simp only [e0, if_true, w1, Int.toNat_natCast, gj, oki, okj, ck_true, wj, wk, lt, Bool.false_eq_true, if_false]
    · have e0 : decide ((0 : Int) < (i : Int)) = false := by simpa using h0
      simp only [e0, Bool.false_eq_true, if_false]) (by simp [laws_FnCatalogues_l1])]
  rfl

theorem cat2_1 : laws_FnCatalogues_l2 = laws_FnCatalogues_l1 := rfl

theorem law_Catalogues {code more : List UInt8} (w : code.length ≤ maxLen) (w2 : more.length ≤ maxLen) : laws_FnCatalogues code more = some true := by
  unfold laws_FnCatalogues
  cases hb : laws_a2Long code more with
  | none => exfalso; unfold laws_a2Long at hb; cases hb
  | some bg =>
    rw [Option.bind_some]
    cases bg with
    | true => rfl
    | false =>
      simp only [Bool.false_eq_true, if_false]
      have hc : code.length ≤ 1099511627776 ∧ more.length ≤ 1099511627776 := by
        unfold laws_a2Long at hb
        simp only [Option.some.injEq, Bool.or_eq_false_iff, decide_eq_false_iff_not] at hb
        omega
      obtain ⟨l, e1, hg, hl⟩ := A2Stars_is hc.1
      obtain ⟨x, e2, hx⟩ := A2Star_is hc.2
      obtain ⟨o, e3, ho, hn, hk, hs⟩ := order_is (goodS_one hg) (show l.length ≤ 60 by omega)
      have hv : (goodS l && decide (l.length ≤ 60)) = true := by rw [hg]; simp; omega
      have e4 : impl_ByAmplitude l = some (o.map fun i : Nat => (i : Int), 0) := by
        unfold impl_ByAmplitude
        rw [ValidStars_is (by omega), hv, Option.bind_some]
        simp only [Bool.not_true, Bool.false_eq_true, if_false]
        rw [e3]; rfl
      have e5 := cat_loop hg (show l.length ≤ 60 by omega) ho hn hk hs
      have e6 : (((o.map fun i : Nat => (i : Int)).length : Int) == (l.length : Int)) = true := by simp [ho]
      rw [e1, Option.bind_some, e2, Option.bind_some]
      rcases Add_is hg hl hx with ⟨_, e7⟩ | ⟨k, e7, hp⟩
      · rw [e7, Option.bind_some]
        simp only [e4, e5, e6, cat2_1, Option.bind_some, beq_self_eq_true, Bool.not_true, Bool.or_self, Bool.false_eq_true, if_false]
        rfl
      · have hkl := hp.1
        have pl := putS_len hkl x
        have pg := putS_good hg hx hp
        have px : (putS l k x).getD k default = x := by rw [putS_get hkl, if_neg (by omega), if_pos rfl]
        have e8 := Named_is pg (show (putS l k x).length ≤ 60 by omega) (k := k) (by omega)
        rw [px] at e8
        have hv2 : (goodS (putS l k x) && decide ((putS l k x).length ≤ 60)) = true := by rw [pg]; simp; omega
        have e9 : spec_ValidStars (putS l k x) = some true := by unfold spec_ValidStars; rw [l04Ok_is (by omega), hv2]; rfl
        have e10 : impl_ValidStars (putS l k x) = some true := by rw [ValidStars_is (by omega), hv2]
        have w3 : IntKind.i64.wrap ((l.length : Int) + 1) = ((putS l k x).length : Int) := by rw [wrap_i64 (by omega) (by omega), pl]; omega
        have g1 : decide ((k : Int) < 0) = false := decide_eq_false (by omega)
        have g2 : decide (((putS l k x).length : Int) ≤ (k : Int)) = false := decide_eq_false (by omega)
        have okk : ixOk (k : Int) (putS l k x).length = true := by rw [ixOk_nat]; exact decide_eq_true (by omega)
        rw [e7, Option.bind_some]
        simp only [beq_self_eq_true, if_true, e4, e5, e6, e8, e9, e10, w3, g1, g2, okk, px, Int.toNat_natCast, Option.bind_some, Option.isSome_some, Option.getD_some, Bool.or_true, ck_true, Bool.not_true, Bool.and_self, Bool.or_self, Bool.false_eq_true, if_false]

end Go.Proofs.YtfmhpfmibopkeaaDoor
