/- The plain law of Skies. No condition. -/
import Derived.Test.YtgbibhhblimfiaaHStars
namespace Go.Proofs.Ytgbibhhblimfiaa
open Go Go.RowKit
set_option linter.unusedSimpArgs false
set_option linter.unusedVariables false

theorem mod_is {a : Int} (h0 : -1000000000 ≤ a) (h1 : a ≤ 1000000000) : impl_mod a 86400 = some (a % 86400) := by
  unfold impl_mod impl_floorDiv
  rw [nz_of (show (86400 : Int) ≠ 0 by decide), ck_true]
  have key : a = 86400 * (a.tdiv 86400) + a.tmod 86400 := (Int.mul_tdiv_add_tmod a 86400).symm
  have lo : -86400 < a.tmod 86400 ∧ a.tmod 86400 < 86400 := ⟨Int.lt_tmod_of_pos a (by decide), Int.tmod_lt_of_pos a (by decide)⟩
  have sg : 0 ≤ a → 0 ≤ a.tmod 86400 := fun h => Int.tmod_nonneg _ h
  have sg2 : a ≤ 0 → a.tmod 86400 ≤ 0 := fun h => by
    have := Int.tmod_nonneg (a := -a) 86400 (by omega)
    rw [Int.neg_tmod] at this; omega
  generalize a.tdiv 86400 = q at key ⊢
  generalize a.tmod 86400 = r at key lo sg sg2 ⊢
  by_cases c : r < 0
  · simp only [c, decide_true, if_true]
    rw [wrap_i64 (n := q) (by omega) (by omega), wrap_i64 (n := q - 1) (by omega) (by omega)]
    simp only [Option.bind_some]
    rw [wrap_i64 (n := (q - 1) * 86400) (by omega) (by omega), wrap_i64 (by omega) (by omega)]
    congr 1; omega
  · simp only [c, decide_false, Bool.false_eq_true, if_false]
    rw [wrap_i64 (n := q) (by omega) (by omega)]
    simp only [Option.bind_some]
    rw [wrap_i64 (n := q * 86400) (by omega) (by omega), wrap_i64 (by omega) (by omega)]
    congr 1; omega

def apartN (a b : Int) : Int := if 86400 - (if a - b < 0 then b - a else a - b) < (if a - b < 0 then b - a else a - b) then 86400 - (if a - b < 0 then b - a else a - b) else (if a - b < 0 then b - a else a - b)

theorem apart_is {a b : Int} (h1 : 0 ≤ a) (h2 : a ≤ 86399) (h3 : 0 ≤ b) (h4 : b ≤ 86399) : impl_AscensionApart a b = some (apartN a b, 0) := by
  unfold impl_AscensionApart
  have e1 : impl_in a 0 86399 = some true := by rw [impl_in_is]; simp [h1, h2]
  have e2 : impl_in b 0 86399 = some true := by rw [impl_in_is]; simp [h3, h4]
  simp only [e1, e2, Option.bind_some, Option.isSome_some, Option.getD_some, Bool.or_true, ck_true, Bool.not_true, Bool.or_self, Bool.false_eq_true, if_false]
  rw [wrap_i64 (n := a - b) (by omega) (by omega)]
  unfold impl_abs apartN
  by_cases c : a - b < 0
  · simp only [c, decide_true, if_true]
    rw [wrap_i64 (n := 0 - (a - b)) (by omega) (by omega), show 0 - (a - b) = b - a by omega]
    simp only [Option.bind_some]
    rw [wrap_i64 (n := 86400 - (b - a)) (by omega) (by omega)]
  · simp only [c, decide_false, Bool.false_eq_true, if_false, Option.bind_some]
    rw [wrap_i64 (n := 86400 - (a - b)) (by omega) (by omega)]

theorem apartN_in {a b : Int} (h1 : 0 ≤ a) (h2 : a ≤ 86399) (h3 : 0 ≤ b) (h4 : b ≤ 86399) : 0 ≤ apartN a b ∧ apartN a b ≤ 43200 ∧ apartN a b = apartN b a := by
  unfold apartN
  refine ⟨?_, ?_, ?_⟩ <;> (repeat' split) <;> omega

def boxN (x : Star) (w : Int) : Box := ⟨(x.Ascend - w) % 86400, (x.Ascend + w) % 86400, if x.Decl - 15 * w < -324000 then -324000 else x.Decl - 15 * w, if 324000 < x.Decl + 15 * w then 324000 else x.Decl + 15 * w⟩

theorem Box_is {x : Star} (hx : oneS x = true) {w : Int} (h0 : 0 ≤ w) (h1 : w ≤ 40000) : impl_BoxAround x w = some (boxN x w, 0) := by
  obtain ⟨_, a0, a1, d0, d1, _⟩ := oneS_in hx
  unfold impl_BoxAround
  have e1 : impl_in w 0 40000 = some true := by rw [impl_in_is]; simp [h0, h1]
  simp only [isStar_is, hx, e1, Option.bind_some, Option.isSome_some, Option.getD_some, Bool.or_true, ck_true, Bool.not_true, Bool.or_self, Bool.false_eq_true, if_false]
  rw [wrap_i64 (n := x.Ascend - w) (by omega) (by omega), wrap_i64 (n := x.Ascend + w) (by omega) (by omega), mod_is (by omega) (by omega), mod_is (by omega) (by omega), wrap_i64 (n := 15 * w) (by omega) (by omega),
    wrap_i64 (n := x.Decl - 15 * w) (by omega) (by omega), wrap_i64 (n := x.Decl + 15 * w) (by omega) (by omega)]
  rfl

def hasB (b : Box) (y : Star) : Bool := (if b.ToAscend < b.FromAscend then (decide (b.FromAscend ≤ y.Ascend) || decide (y.Ascend ≤ b.ToAscend)) else (decide (b.FromAscend ≤ y.Ascend) && decide (y.Ascend ≤ b.ToAscend))) && (decide (b.FromDecl ≤ y.Decl) && decide (y.Decl ≤ b.ToDecl))

theorem has_is (b : Box) (y : Star) : impl_Box_has b y = some (hasB b y) := by
  unfold impl_Box_has hasB
  simp only [impl_in_is, Option.bind_some, Option.isSome_some, Option.getD_some, Bool.or_true, ck_true]
  by_cases c : b.ToAscend < b.FromAscend
  · simp only [c, decide_true, if_true]
  · simp only [c, decide_false, Bool.false_eq_true, if_false]

theorem arc {a b w F T : Int} (a0 : 0 ≤ a) (a1 : a ≤ 86399) (b0 : 0 ≤ b) (b1 : b ≤ 86399) (h0 : 0 ≤ w) (h1 : w ≤ 40000) (hF : F = (a - w) % 86400) (hT : T = (a + w) % 86400) :
    ((T < F ∧ (F ≤ b ∨ b ≤ T)) ∨ (¬ T < F ∧ F ≤ b ∧ b ≤ T)) ↔ apartN a b ≤ w := by
  have e : apartN a b ≤ w ↔ ((a - b ≤ w ∧ b - a ≤ w) ∨ (86400 - (a - b) ≤ w) ∨ (86400 - (b - a) ≤ w)) := by
    unfold apartN
    by_cases c : a - b < 0 <;> simp only [c, if_true, if_false] <;> split <;> omega
  rw [e]
  have f1 : (a - w < 0 ∧ F = a - w + 86400) ∨ (0 ≤ a - w ∧ F = a - w) := by omega
  have f2 : (a + w < 86400 ∧ T = a + w) ∨ (86400 ≤ a + w ∧ T = a + w - 86400) := by omega
  clear hF hT e
  constructor
  · intro h; rcases f1 with f1 | f1 <;> rcases f2 with f2 | f2 <;> rcases h with h | h <;> omega
  · intro h
    by_cases c : T < F
    · exact .inl ⟨c, by rcases f1 with f1 | f1 <;> rcases f2 with f2 | f2 <;> omega⟩
    · exact .inr ⟨c, by rcases f1 with f1 | f1 <;> rcases f2 with f2 | f2 <;> omega⟩

/-- A star is in the box just if it is near. -/
theorem hasB_is {x y : Star} (hx : oneS x = true) (hy : oneS y = true) {w : Int} (h0 : 0 ≤ w) (h1 : w ≤ 40000) :
    hasB (boxN x w) y = (((decide (apartN x.Ascend y.Ascend ≤ w)) && (decide (y.Decl - x.Decl ≤ 15 * w))) && (decide ((-15) * w ≤ y.Decl - x.Decl))) := by
  obtain ⟨_, a0, a1, d0, d1, _⟩ := oneS_in hx
  obtain ⟨_, b0, b1, g0, g1, _⟩ := oneS_in hy
  have hd : (decide ((boxN x w).FromDecl ≤ y.Decl) && decide (y.Decl ≤ (boxN x w).ToDecl)) = (decide (y.Decl - x.Decl ≤ 15 * w) && decide ((-15) * w ≤ y.Decl - x.Decl)) := by
    simp only [boxN]
    rw [Bool.eq_iff_iff]
    simp only [Bool.and_eq_true, decide_eq_true_eq]
    by_cases c1 : x.Decl - 15 * w < -324000 <;> by_cases c2 : 324000 < x.Decl + 15 * w <;> simp only [c1, c2, if_true, if_false, Bool.and_eq_true, decide_eq_true_eq] <;> constructor <;> rintro ⟨h, h2⟩ <;> constructor <;> omega
  have ha : (if (boxN x w).ToAscend < (boxN x w).FromAscend then (decide ((boxN x w).FromAscend ≤ y.Ascend) || decide (y.Ascend ≤ (boxN x w).ToAscend)) else (decide ((boxN x w).FromAscend ≤ y.Ascend) && decide (y.Ascend ≤ (boxN x w).ToAscend))) = decide (apartN x.Ascend y.Ascend ≤ w) := by
    have := arc a0 a1 b0 b1 h0 h1 (F := (boxN x w).FromAscend) (T := (boxN x w).ToAscend) rfl rfl
    rw [Bool.eq_iff_iff, decide_eq_true_eq, ← this]
    by_cases c : (boxN x w).ToAscend < (boxN x w).FromAscend
    · rw [if_pos c]
      simp only [Bool.or_eq_true, decide_eq_true_eq]
      exact ⟨fun h => .inl ⟨c, h⟩, fun h => h.elim (fun h => h.2) (fun h => absurd c h.1)⟩
    · rw [if_neg c]
      simp only [Bool.and_eq_true, decide_eq_true_eq]
      exact ⟨fun h => .inr ⟨c, h⟩, fun h => h.elim (fun h => absurd h.1 c) (fun h => h.2)⟩
  unfold hasB
  rw [ha, hd, Bool.and_assoc]

theorem boxN_ok {x : Star} (hx : oneS x = true) {w : Int} (h0 : 0 ≤ w) (h1 : w ≤ 40000) : impl_isBox (boxN x w) = some true := by
  obtain ⟨_, a0, a1, d0, d1, _⟩ := oneS_in hx
  unfold impl_isBox boxN
  simp only [impl_in_is, Option.bind_some, Option.isSome_some, Option.getD_some, Bool.or_true, ck_true]
  congr 1
  simp only [Bool.and_eq_true, decide_eq_true_eq]
  refine ⟨⟨⟨⟨⟨by omega, by omega⟩, by omega, by omega⟩, ?_⟩, ?_⟩, ?_⟩ <;> (repeat' split) <;> omega

def nearN (b : Box) (l : List Star) : List Int := keptTo (α := Int) (fun i => hasB b (l.getD i default)) (fun i => (i : Int)) l.length

theorem InBox_is {l : List Star} (hl : l.length ≤ 60) (hg : goodS l = true) {b : Box} (hb : impl_isBox b = some true) : impl_InBox l b = some (nearN b l, 0) := by
  unfold impl_InBox impl_indicesWhere__impl_InBox_c1
  rw [ValidStars_is (by omega), hg, hb]
  have e : decide (l.length ≤ 60) = true := by simpa using hl
  simp only [e, Option.bind_some, Option.isSome_some, Option.getD_some, Bool.or_true, ck_true, Bool.and_self, Bool.not_true, Bool.or_self, Bool.false_eq_true, if_false]
  rw [while_keep (step := impl_indicesWhere__impl_InBox_c1_l1 b l (l.length : Int)) (fun i => hasB b (l.getD i default)) (fun i => (i : Int)) l.length (fun out i hi ho => by
    simp only [impl_indicesWhere__impl_InBox_c1_l1, impl_InBox_c1, has_is, ixOk_nat, hi, decide_true, ck_true, Int.ofNat_lt, if_true, Int.toNat_natCast, wrap_nat1 (show i < 9223372036854775807 by omega), Option.bind_some,
      appOk_of (show (out.length + ([(i : Int)] : List Int).length) * 8 ≤ 140737488355328 by simp; omega)]
    cases hasB b (l.getD i default) <;> rfl) (by simp [impl_indicesWhere__impl_InBox_c1_l1]; rfl)]
  rfl

/-! ### What is kept rises, and has just what is kept -/

theorem kept_mem {p : Nat → Bool} {n i : Nat} (hi : i < n) : (keptTo (α := Int) p (fun i => (i : Int)) n).any (· == (i : Int)) = p i := by
  rw [Bool.eq_iff_iff, List.any_eq_true]
  unfold keptTo
  constructor
  · rintro ⟨x, hx, he⟩
    simp only [List.mem_map, List.mem_filter, List.mem_range] at hx
    obtain ⟨j, ⟨hj, hp⟩, rfl⟩ := hx
    have h2 : (j : Int) = (i : Int) := by simpa using he
    have : j = i := by omega
    rwa [this] at hp
  · intro hp
    exact ⟨(i : Int), by simp only [List.mem_map, List.mem_filter, List.mem_range]; exact ⟨i, ⟨hi, hp⟩, rfl⟩, by simp⟩

theorem kept_rises (p : Nat → Bool) (n : Nat) : (keptTo (α := Int) p (fun i => (i : Int)) n).Pairwise (· < ·) ∧ ∀ x ∈ keptTo (α := Int) p (fun i => (i : Int)) n, 0 ≤ x ∧ x < (n : Int) := by
  constructor
  · unfold keptTo
    rw [List.pairwise_map]
    refine (List.pairwise_lt_range.filter _).imp fun {a b} h => ?_
    omega
  · intro x hx
    unfold keptTo at hx
    simp only [List.mem_map, List.mem_filter, List.mem_range] at hx
    obtain ⟨j, ⟨hj, _⟩, rfl⟩ := hx
    omega

theorem a2Has_is {l : List Int} (hl : l.length ≤ 1099511627776) (n : Int) : laws_a2Has l n = some (l.any (· == n)) := by
  unfold laws_a2Has
  rw [while_find (step := laws_a2Has_l1 l n) (fun k => l.getD k default == n) (fun _ => true) l.length
    (fun k hk => by
      simp only [laws_a2Has_l1, ixOk_nat, hk, decide_true, ck_true, Int.ofNat_lt, if_true, Int.toNat_natCast, wrap_nat1 (show k < 9223372036854775807 by omega)]
      cases (l.getD k default == n) <;> rfl)
    (by simp [laws_a2Has_l1]), ← find_any]
  cases (List.range l.length).find? (fun k => l.getD k default == n) <;> rfl

theorem a2Rises_is {l : List Int} (hl : l.length ≤ 1099511627776) {n : Int} (hp : l.Pairwise (· < ·)) (hb : ∀ x ∈ l, 0 ≤ x ∧ x < n) : laws_a2Rises l n = some true := by
  unfold laws_a2Rises
  rw [while_all (step := laws_a2Rises_l1 l n) (fun _ => true) l.length true (yes := .inl ()) (no := .inr false) (by simp) (fun i hi => by
    have hx := hb _ (getD_mem hi default)
    have c1 : (decide (l.getD i default < 0) || decide (n ≤ l.getD i default)) = false := by rw [Bool.or_eq_false_iff, decide_eq_false_iff_not, decide_eq_false_iff_not]; omega
    simp only [laws_a2Rises_l1, ixOk_nat, hi, decide_true, ck_true, Int.ofNat_lt, if_true, Int.toNat_natCast, wrap_nat1 (show i < 9223372036854775807 by omega), c1, Bool.false_or, Bool.not_false, Bool.true_and]
    by_cases h0 : 0 < i
    · have e0 : decide ((0 : Int) < (i : Int)) = true := by simpa using h0
      have w1 : IntKind.i64.wrap ((i : Int) - 1) = ((i - 1 : Nat) : Int) := by rw [wrap_i64 (by omega) (by omega)]; omega
      have ok1 : ixOk ((i - 1 : Nat) : Int) l.length = true := by rw [ixOk_nat]; simp; omega
      have hlt : l.getD (i - 1) default < l.getD i default := by
        rw [getD_lt (show i - 1 < l.length by omega), getD_lt hi]
        exact List.pairwise_iff_getElem.1 hp (i - 1) i (by omega) hi (by omega)
      have c2 : decide (l.getD i default ≤ l.getD (i - 1) default) = false := decide_eq_false (by omega)
      simp only [e0, w1, ok1, Bool.or_true, ck_true, Bool.true_and, Int.toNat_natCast, c2, Bool.false_eq_true, if_false]
    · have e0 : decide ((0 : Int) < (i : Int)) = false := by simpa using h0
      simp only [e0, Bool.not_false, Bool.true_or, ck_true, Bool.false_and, Bool.false_eq_true, if_false]) (by simp [laws_a2Rises_l1])]
  rfl

theorem a2At_is {c : List UInt8} : ∃ v, laws_a2At c 0 256 = some v ∧ 0 ≤ v ∧ v ≤ 255 := by
  unfold laws_a2At
  by_cases h : (c.length : Int) ≤ 0
  · simp only [h, decide_true, Bool.true_or, if_true]
    exact ⟨0, rfl, by omega, by omega⟩
  · have b := u8_lt (c.getD 0 default)
    have e : (decide ((256 : Int) < 1)) = false := by decide
    simp only [h, decide_false, Bool.false_or, e, Bool.false_eq_true, if_false]
    rw [ixOk_of (by omega) (by omega), ck_true, nz_of (by decide), ck_true]
    have t : ((c.getD (0 : Int).toNat default).toNat : Int).tmod 256 = ((c.getD 0 default).toNat : Int) := by
      rw [Int.tmod_eq_emod_of_nonneg (by omega)]
      show ((c.getD 0 default).toNat : Int) % 256 = _
      omega
    rw [t]
    exact ⟨_, rfl, by omega, by omega⟩

theorem law_Skies {code more : List UInt8} : laws_FnSkies code more = some true := by
  unfold laws_FnSkies laws_a2Long
  simp only [Option.bind_some]
  by_cases hL : (decide (3000 < (code.length : Int)) || decide (3000 < (more.length : Int))) = true
  · rw [if_pos hL]
  rw [if_neg hL]
  simp only [Bool.or_eq_true, decide_eq_true_eq, not_or] at hL
  obtain ⟨l, e1, hg, hl⟩ := A2Stars_is (c := code) (by omega)
  obtain ⟨x, e2, hx⟩ := A2Star_is (c := more) (by omega)
  obtain ⟨v, e3, v0, v1⟩ := a2At_is (c := more)
  have hw : IntKind.i64.wrap (40 * v) = 40 * v := wrap_i64 (by omega) (by omega)
  simp only [e1, e2, e3, Option.bind_some, hw]
  generalize hwd : 40 * v = w
  have w0 : 0 ≤ w := by omega
  have w1 : w ≤ 40000 := by omega
  obtain ⟨_, a0, a1, d0, d1, _⟩ := oneS_in hx
  rw [Box_is hx w0 w1]
  simp only [Option.bind_some]
  have hb := boxN_ok hx w0 w1
  rw [InBox_is (by omega) hg hb, InBox_is (l := [x]) (by simp) (by
    unfold goodS okS
    simp [hx]) hb]
  have own : nearN (boxN x w) [x] = [0] := by
    have : hasB (boxN x w) x = true := by
      rw [hasB_is hx hx w0 w1]
      have : apartN x.Ascend x.Ascend = 0 := by unfold apartN; simp
      rw [this]
      simp only [Bool.and_eq_true, decide_eq_true_eq]
      omega
    unfold nearN keptTo
    simp [List.range_succ, this]
  rw [own]
  have hr := kept_rises (fun i => hasB (boxN x w) (l.getD i default)) l.length
  have hk : (nearN (boxN x w) l).length ≤ l.length := keptTo_len _ _ _
  have hris : laws_a2Rises (nearN (boxN x w) l) (l.length : Int) = some true := a2Rises_is (by omega) hr.1 hr.2
  simp only [Option.bind_some, hris, Option.isSome_some, Option.getD_some, Bool.or_true, ck_true, beq_self_eq_true, Bool.not_true, Bool.or_self, List.length_cons, List.length_nil]
  have one : ((((0 + 1 : Nat) : Int)) == 1) = true := rfl
  simp only [one, Bool.not_true, Bool.or_self, Bool.false_eq_true, if_false]
  rw [while_all (step := laws_FnSkies_l1 l x w (nearN (boxN x w) l)) (fun _ => true) l.length true (yes := .inl ()) (no := .inr false) (by simp) (fun i hi => by
    have hy := goodS_at hg hi
    obtain ⟨_, b0, b1, g0, g1, _⟩ := oneS_in hy
    obtain ⟨p0, p1, p2⟩ := apartN_in a0 a1 b0 b1
    have c1 : decide (apartN x.Ascend (l.getD i default).Ascend < 0) = false := decide_eq_false (by omega)
    have c2 : decide (43200 < apartN x.Ascend (l.getD i default).Ascend) = false := decide_eq_false (by omega)
    have k1 : IntKind.i64.wrap ((l.getD i default).Decl - x.Decl) = (l.getD i default).Decl - x.Decl := wrap_i64 (by omega) (by omega)
    have k2 : IntKind.i64.wrap (15 * w) = 15 * w := wrap_i64 (by omega) (by omega)
    have k3 : IntKind.i64.wrap (-15 * w) = -15 * w := wrap_i64 (by omega) (by omega)
    simp only [laws_FnSkies_l1, ixOk_nat, hi, decide_true, ck_true, Int.ofNat_lt, if_true, Int.toNat_natCast, wrap_nat1 (show i < 9223372036854775807 by omega), apart_is a0 a1 b0 b1, apart_is b0 b1 a0 a1, Option.bind_some, ← p2, beq_self_eq_true, Bool.not_true, c1, c2, Bool.or_self, Bool.false_eq_true, if_false]
    rw [a2Has_is (by omega)]
    simp only [k1, k2, k3, Option.bind_some]
    rw [← hasB_is hx hy w0 w1]
    unfold nearN
    rw [kept_mem hi]
    simp only [Option.bind_some, beq_self_eq_true, Bool.not_true, Bool.false_eq_true, if_false]) (by simp [laws_FnSkies_l1])]
  rfl

end Go.Proofs.Ytgbibhhblimfiaa
