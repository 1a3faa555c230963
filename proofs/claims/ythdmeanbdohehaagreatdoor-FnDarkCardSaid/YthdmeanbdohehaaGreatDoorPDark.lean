/- The plain law of FnDark. No condition. -/
import Derived.Test.YthdmeanbdohehaaGreatDoorHPB
import Derived.Test.YthdmeanbdohehaaGreatDoorHWinD
namespace Go.Proofs.YthdmeanbdohehaaGreatDoor
open Go Go.RowKit
set_option linter.unusedSimpArgs false
set_option linter.unusedVariables false
theorem IL {a b : List AA} (h : a.length ≤ 1099511627776) : AH a b = some (decide (a = b)) := by
  unfold AH Hs
  by_cases hl : a.length = b.length
  · have e : (!((a.length : Int) == (b.length : Int))) = false := by simp [hl]
    rw [e]
    simp only [Bool.false_eq_true, if_false]
    have eqW : ∀ x y : AA, ((x.From == y.From) && (x.To == y.To)) = (x == y) := fun x y => by
      rw [Bool.eq_iff_iff]; cases x; cases y; simp [AA.mk.injEq]
    rw [JK (step := EV a b) (fun i => a.getD i default == b.getD i default) a.length (decide (a = b)) (yes := .inl ()) (no := .inr false) (by
      rw [decide_eq_true_eq]; exact (Pz hl).symm) (fun i hi => by
      simp only [EV, Int.ofNat_lt, hi, decide_true, if_true, Bp, AN, Int.toNat_natCast, BR (show i < 9223372036854775807 by omega), show i < b.length by omega, eqW]
      cases (a.getD i default == b.getD i default) <;> rfl) (by simp [EV])]
    by_cases hab : a = b
    · simp [hab]
    · simp [hab]
  · have e : (!((a.length : Int) == (b.length : Int))) = true := by
      simp; omega
    rw [e]
    have : a ≠ b := fun c => hl (by rw [c])
    simp [this]
theorem Zl (a b : List AA) : Cp a b = AH a b := rfl
def MU (day dusk dawn : Int) (i : Nat) : AA := ⟨(day + i) * 10000 + dusk, (day + i + 1) * 10000 + dawn⟩
theorem YO {day count dusk dawn : Int} (hd : 0 ≤ day ∧ day ≤ 999) (hc : 0 ≤ count ∧ count ≤ 30) (hk : 0 ≤ dusk ∧ dusk ≤ 9999) (hw : 0 ≤ dawn ∧ dawn < dusk) :
    (∃ l, AJ (BX day count dusk dawn) (([] : List AA), 0) = some (.inl l) ∧ (l.length : Int) = count ∧ BS l = true) ∨ AJ (BX day count dusk dawn) (([] : List AA), 0) = some (.inr ([], 5)) := by
  obtain ⟨cn, rfl⟩ : ∃ cn : Nat, count = cn := ⟨count.toNat, by omega⟩
  have key : ∀ (m i : Nat), i + m = cn → (∀ j, j < i → (MU day dusk dawn j).To ≤ 10000000) →
      (∃ l, AJ (BX day (cn : Int) dusk dawn) ((List.range i).map (MU day dusk dawn), (i : Int)) = some (.inl l) ∧ l.length = cn ∧ BS l = true) ∨ AJ (BX day (cn : Int) dusk dawn) ((List.range i).map (MU day dusk dawn), (i : Int)) = some (.inr ([], 5)) := by
    intro m
    induction m with
    | zero =>
      intro i hi h
      refine .inl ⟨_, Ae (by unfold BX; dsimp only; rw [if_neg (by simp; omega)]), by simp; omega, ?_⟩
      unfold BS
      rw [Bool.and_eq_true, decide_eq_true_eq, List.length_map, List.length_range]
      refine ⟨Vh.2 fun j hj => ?_, by omega⟩
      rw [List.length_map, List.length_range] at hj
      have g : ∀ k, k < i → ((List.range i).map (MU day dusk dawn)).getD k default = MU day dusk dawn k := fun k hk => by
        simp [List.getD_eq_getElem?_getD, hk]
      rw [g j hj]
      have := h j hj
      refine ⟨⟨?_, ?_, this⟩, fun h0 => ?_⟩
      · show 0 ≤ (day + j) * 10000 + dusk; omega
      · show (day + j) * 10000 + dusk ≤ (day + j + 1) * 10000 + dawn; omega
      · rw [g (j - 1) (by omega)]
        show (day + ((j - 1 : Nat) : Int) + 1) * 10000 + dawn < (day + (j : Int)) * 10000 + dusk
        have : ((j - 1 : Nat) : Int) = (j : Int) - 1 := by omega
        omega
    | succ m ih =>
      intro i hi h
      have w1 : IntKind.i64.wrap (day + (i : Int)) = day + i := AX (by omega) (by omega)
      have w2 : IntKind.i64.wrap (day + (i : Int) + 1) = day + i + 1 := AX (by omega) (by omega)
      have w3 : IntKind.i64.wrap ((day + (i : Int) + 1) * 10000) = (day + i + 1) * 10000 := AX (by omega) (by omega)
      have w4 : IntKind.i64.wrap ((day + (i : Int) + 1) * 10000 + dawn) = (day + i + 1) * 10000 + dawn := AX (by omega) (by omega)
      have w5 : IntKind.i64.wrap ((day + (i : Int)) * 10000) = (day + i) * 10000 := AX (by omega) (by omega)
      have w6 : IntKind.i64.wrap ((day + (i : Int)) * 10000 + dusk) = (day + i) * 10000 + dusk := AX (by omega) (by omega)
      by_cases c : (10000000 : Int) < (day + i + 1) * 10000 + dawn
      · refine .inr (Ae ?_)
        unfold BX
        dsimp only
        rw [if_pos (decide_eq_true (by omega))]
        simp only [w1, w2, w3, w4, decide_eq_true c, if_true]
      · have hst : BX day (cn : Int) dusk dawn ((List.range i).map (MU day dusk dawn), (i : Int)) = some (.inl ((List.range (i + 1)).map (MU day dusk dawn), ((i + 1 : Nat) : Int))) := by
          unfold BX
          dsimp only
          rw [if_pos (decide_eq_true (by omega))]
          simp only [w1, w2, w3, w4, w5, w6, decide_eq_false c, Bool.false_eq_true, if_false]
          rw [Bu (by simp; omega), AN, BR (by omega), List.range_succ, List.map_append]
          rfl
        rw [Ah hst]
        refine ih (i + 1) (by omega) (fun j hj => ?_)
        rcases Nat.lt_or_ge j i with g | g
        · exact h j g
        · have : j = i := by omega
          subst this
          show (day + j + 1) * 10000 + dawn ≤ 10000000
          omega
  rcases key cn 0 (by omega) (fun j hj => absurd hj (by omega)) with ⟨l, k1, k2, k3⟩ | k
  · exact .inl ⟨l, k1, by omega, k3⟩
  · exact .inr k
theorem ZP (day count dusk dawn : Int) : ∃ l c, FM day count dusk dawn = some (l, c) ∧ FK day count dusk dawn = some (l, c) ∧ l.length ≤ 30 ∧ (c = 0 → (l.length : Int) = count ∧ BS l = true) := by
  unfold FM FK
  have el : FF day dusk dawn count = BX day count dusk dawn := rfl
  simp only [KF, HU, Option.bind_some, Option.isSome_some, Option.getD_some, Bool.or_true, AN, el]
  by_cases h : ((0 ≤ day ∧ day ≤ 999) ∧ (0 ≤ count ∧ count ≤ 30) ∧ (0 ≤ dusk ∧ dusk ≤ 9999)) ∧ (0 ≤ dawn ∧ dawn < dusk)
  · obtain ⟨⟨hd, hc, hk⟩, hw⟩ := h
    have w : IntKind.i64.wrap (dusk - 1) = dusk - 1 := AX (by omega) (by omega)
    rw [w]
    rw [if_neg (by simp; omega), if_neg (by simp; omega)]
    rcases YO hd hc hk hw with ⟨l, k1, k2, k3⟩ | k
    · rw [k1]
      exact ⟨l, 0, rfl, rfl, (Cv k3).2, fun _ => ⟨k2, k3⟩⟩
    · rw [k]
      exact ⟨[], 5, rfl, rfl, by simp, fun c => absurd c (by omega)⟩
  · have h2 : ((!(decide (0 ≤ day) && decide (day ≤ 999)) || !(decide (0 ≤ count) && decide (count ≤ 30)) || !(decide (0 ≤ dusk) && decide (dusk ≤ 9999)) || !(decide (0 ≤ dawn) && decide (dawn ≤ 9999))) || decide (dusk ≤ dawn)) = true := by
      rw [← Bool.not_eq_false]
      intro c
      simp only [Bool.or_eq_false_iff, Bool.not_eq_false', Bool.and_eq_true, decide_eq_true_eq, decide_eq_false_iff_not] at c
      obtain ⟨⟨⟨⟨a, b⟩, d⟩, e⟩, g⟩ := c
      exact h ⟨⟨a, b, d⟩, e.1, by omega⟩
    have h1 : (!(decide (0 ≤ day) && decide (day ≤ 999)) || !(decide (0 ≤ count) && decide (count ≤ 30)) || !(decide (0 ≤ dusk) && decide (dusk ≤ 9999)) || !(decide (0 ≤ dawn) && decide (dawn ≤ IntKind.i64.wrap (dusk - 1)))) = true := by
      rw [← Bool.not_eq_false]
      intro c
      simp only [Bool.or_eq_false_iff, Bool.not_eq_false', Bool.and_eq_true, decide_eq_true_eq] at c
      obtain ⟨⟨⟨a, b⟩, d⟩, e⟩ := c
      have w : IntKind.i64.wrap (dusk - 1) = dusk - 1 := AX (by omega) (by omega)
      rw [w] at e
      exact h ⟨⟨a, b, d⟩, e.1, by omega⟩
    rw [if_pos h1, if_pos h2]
    exact ⟨[], 2, rfl, rfl, by simp, fun c => absurd c (by omega)⟩
def Dq (w : AA) : Int := w.To - w.From
def Lu (l : List AA) (least : Int) (i : Nat) : Bool := decide (least ≤ IntKind.i64.wrap (IntKind.i64.wrap ((l.getD i default).To - (l.getD i default).From) + 1))
def JS (l : List AA) (least : Int) : List AA := IT (α := AA) (Lu l least) (fun i => l.getD i default) l.length
theorem WA {l : List AA} (hl : l.length ≤ 1000000) (n : Int) : DQ l n = some (if BS l = true then (if (decide (1 ≤ n) && decide (n ≤ 10000001)) = true then (JS l n, 0) else ([], 2)) else ([], 1)) ∧
    Eo l n = some (if BS l = true then (if (decide (1 ≤ n) && decide (n ≤ 10000001)) = true then (JS l n, 0) else ([], 2)) else ([], 1)) := by
  have el : BO n l (l.length : Int) = CN l n := rfl
  have a : AJ (CN l n) (([] : List AA), 0) = some (JS l n) :=
    Za (step := CN l n) (Lu l n) (fun i => l.getD i default) l.length (r := JS l n) (fun out i hi ho => by
      simp only [CN, Int.ofNat_lt, hi, decide_true, if_true, Bp, AN, Int.toNat_natCast, BR (show i < 9223372036854775807 by omega)]
      rw [Bu (by simp; omega), AN]
      unfold Lu
      split <;> rfl) (by simp [CN, JS, IT])
  unfold DQ Eo BV
  rw [CH (by omega), Hc (by omega), el, a, KF, HU]
  simp only [Option.bind_some]
  cases BS l <;> cases (decide (1 ≤ n) && decide (n ≤ 10000001)) <;> exact ⟨rfl, rfl⟩
theorem cu (l : List AA) (n : Int) : (JS l n).length ≤ l.length := Tg _ _ _
theorem WQ {l : List AA} (hv : ∀ w ∈ l, 0 ≤ w.From ∧ w.From ≤ w.To ∧ w.To ≤ 10000000) (hl : l.length ≤ 30) : ∀ (m i b : Nat), i + m = l.length → b < i → (∀ j, j < i → Dq (l.getD j default) ≤ Dq (l.getD b default)) → (∀ j, j < b → Dq (l.getD j default) < Dq (l.getD b default)) →
    ∃ k : Nat, AJ (BK l) ((b : Int), (i : Int)) = some (k : Int) ∧ k < l.length ∧ (∀ j, j < k → Dq (l.getD j default) < Dq (l.getD k default)) := by
  intro m
  induction m with
  | zero =>
    intro i b hi hb h1 h2
    exact ⟨b, Ae (by unfold BK; dsimp only; rw [if_neg (by simp; omega)]), by omega, h2⟩
  | succ m ih =>
    intro i b hi hb h1 h2
    have hil : i < l.length := by omega
    have hbl : b < l.length := by omega
    have vi := hv _ (Fq hil default)
    have vb := hv _ (Fq hbl default)
    have wi : IntKind.i64.wrap ((l.getD i default).To - (l.getD i default).From) = Dq (l.getD i default) := AX (by omega) (by omega)
    have wb : IntKind.i64.wrap ((l.getD b default).To - (l.getD b default).From) = Dq (l.getD b default) := AX (by omega) (by omega)
    have head : BK l ((b : Int), (i : Int)) = some (.inl ((if Dq (l.getD b default) < Dq (l.getD i default) then (i : Int) else (b : Int)), ((i + 1 : Nat) : Int))) := by
      unfold BK
      dsimp only
      rw [if_pos (decide_eq_true (by omega)), Bp, decide_eq_true hil, AN, Bp, decide_eq_true hbl, AN]
      simp only [Int.toNat_natCast, wi, wb, BR (show i < 9223372036854775807 by omega), decide_eq_true_eq]
      split <;> rfl
    rw [Ah head]
    by_cases c : Dq (l.getD b default) < Dq (l.getD i default)
    · rw [if_pos c]
      refine ih (i + 1) i (by omega) (by omega) (fun j hj => ?_) (fun j hj => ?_)
      · rcases Nat.lt_or_ge j i with g | g
        · have := h1 j g; omega
        · have : j = i := by omega
          subst this; omega
      · have := h1 j hj; omega
    · rw [if_neg c]
      refine ih (i + 1) b (by omega) (by omega) (fun j hj => ?_) h2
      rcases Nat.lt_or_ge j i with g | g
      · exact h1 j g
      · have : j = i := by omega
        subst this; omega
theorem Xf {l : List AA} (hl : l.length ≤ 1000000) : ∃ k c, EQ l = some (k, c) ∧ EM l = some (k, c) ∧ (c = 0 → BS l = true ∧ ∃ j : Nat, k = j ∧ j < l.length ∧ ∀ i, i < j → Dq (l.getD i default) < Dq (l.getD j default)) := by
  unfold EQ EM
  rw [CH (by omega), Hc (by omega)]
  simp only [Option.bind_some]
  cases hv : BS l
  · exact ⟨0, 1, rfl, rfl, fun c => absurd c (by omega)⟩
  · simp only [Bool.not_true, Bool.false_eq_true, if_false]
    by_cases h0 : l.length = 0
    · rw [if_pos (by simp only [beq_iff_eq]; omega), if_pos (by simp only [beq_iff_eq]; omega)]
      exact ⟨0, 3, rfl, rfl, fun c => absurd c (by omega)⟩
    · rw [if_neg (by simp only [beq_iff_eq]; omega), if_neg (by simp only [beq_iff_eq]; omega)]
      obtain ⟨k, k1, k2, k3⟩ := WQ (l := l) (fun w hw => Du hv hw) (Cv hv).2 (l.length - 1) 1 0 (by omega) (by omega) (fun j hj => by
        have : j = 0 := by omega
        subst this; omega) (fun j hj => absurd hj (by omega))
      have k1' : AJ (BK l) (0, 1) = some (k : Int) := k1
      have el : ER l l (l.length : Int) = BK l := rfl
      have first : BK l (0, 0) = some (.inl (0, 1)) := by
        have i0 : BB 0 l.length = true := DL (by omega) (by omega)
        unfold BK
        dsimp only
        rw [if_pos (decide_eq_true (by omega)), i0, AN, AN, if_neg (by simp)]
        rfl
      rw [el, Ah first, k1']
      exact ⟨k, 0, rfl, rfl, fun _ => ⟨trivial, k, rfl, k2, k3⟩⟩
theorem YS {l : List AA} (hv : BS l = true) {k : Nat} (hk : k < l.length) (h : ∀ i, i < k → Dq (l.getD i default) < Dq (l.getD k default)) :
    DQ l (IntKind.i64.wrap (IntKind.i64.wrap ((l.getD k default).To - (l.getD k default).From) + 1)) = some (JS l (Dq (l.getD k default) + 1), 0) ∧ 1 ≤ (JS l (Dq (l.getD k default) + 1)).length ∧ (JS l (Dq (l.getD k default) + 1)).getD 0 default = l.getD k default := by
  have one : ∀ i, i < l.length → 0 ≤ Dq (l.getD i default) ∧ Dq (l.getD i default) ≤ 10000000 ∧ IntKind.i64.wrap (IntKind.i64.wrap ((l.getD i default).To - (l.getD i default).From) + 1) = Dq (l.getD i default) + 1 := fun i hi => by
    have v := Du hv (Fq hi default)
    have w1 : IntKind.i64.wrap ((l.getD i default).To - (l.getD i default).From) = Dq (l.getD i default) := AX (by omega) (by omega)
    have s0 : 0 ≤ Dq (l.getD i default) := by unfold Dq; omega
    have s1 : Dq (l.getD i default) ≤ 10000000 := by unfold Dq; omega
    exact ⟨s0, s1, by rw [w1]; exact AX (by omega) (by omega)⟩
  obtain ⟨a, b, c⟩ := one k hk
  have hl30 := (Cv hv).2
  refine ⟨?_, ?_⟩
  · rw [c, (WA (l := l) (by omega) _).1, if_pos hv, if_pos (by rw [Bool.and_eq_true, decide_eq_true_eq, decide_eq_true_eq]; omega)]
  · have hp : Lu l (Dq (l.getD k default) + 1) k = true := by unfold Lu; rw [c]; exact decide_eq_true (by omega)
    have hn : ∀ i, i < k → Lu l (Dq (l.getD k default) + 1) i = false := fun i hi => by
      obtain ⟨_, _, c'⟩ := one i (by omega)
      have := h i hi
      unfold Lu; rw [c']; exact decide_eq_false (by omega)
    have hf : (List.range l.length).find? (Lu l (Dq (l.getD k default) + 1)) = some k := by
      rw [List.find?_range_eq_some]
      exact ⟨hp, by simpa using hk, fun i hi => by rw [hn i hi]; rfl⟩
    have hh : ((List.range l.length).filter (Lu l (Dq (l.getD k default) + 1))).head? = some k := by rw [List.head?_filter, hf]
    unfold JS IT
    generalize (List.range l.length).filter (Lu l (Dq (l.getD k default) + 1)) = q at hh
    cases q with
    | nil => cases hh
    | cons x r =>
      have : x = k := by simpa using hh
      subst this
      exact ⟨by simp, rfl⟩
theorem kC {l : List AA} (hl : l.length ≤ 1000000) (t : Int) : Ia l t = some (Yi l t) := by
  unfold Ia Av BC
  rw [Zb (step := AZ l t (l.length : Int)) (fun i => Tz (l.getD i default) t) (fun j => (j : Int)) l.length (fun i hi => by
    simp only [AZ, HV, KF, Int.ofNat_lt, hi, decide_true, if_true, Bp, AN, Int.toNat_natCast, Option.bind_some, BR (show i < 9223372036854775807 by omega)]
    show (if Tz (l.getD i default) t = true then _ else _) = _
    cases Tz (l.getD i default) t <;> rfl) (by simp [AZ])]
  have hf := kR l (fun w => Tz w t)
  show _ = some (l.any fun w => Tz w t)
  rw [← hf]
  cases (List.range l.length).find? fun i => Tz (l.getD i default) t with
  | none => rfl
  | some j =>
    have : decide (0 ≤ (j : Int)) = true := decide_eq_true (by omega)
    simp only [Option.bind_some, this, Option.isSome_some]
theorem ao {l : List AA} (hv : BS l = true) {t : Int} (h0 : 0 ≤ t) (h1 : t ≤ 10000000) : Ci l t = some (Yi l t, 0) := by
  have h30 := (Cv hv).2
  unfold Ci Di
  rw [CH (by omega), hv, Option.bind_some, KF]
  simp only [Bool.not_true, Bool.false_eq_true, if_false, Option.bind_some, decide_eq_true h0, decide_eq_true h1, Bool.and_self]
  rw [kC (by omega)]
  rfl
theorem kc {l : List AA} (hl : l.length ≤ 1000000) : Co l = some l := by
  unfold Co
  rw [Bu (by simp; omega), AN]
  rfl
theorem fG {a b d : List AA} (ha : a.length ≤ 100) (hb : b.length ≤ 100) (hd : d.length ≤ 100) : ∃ r c, Fo a b d = some (r, c) ∧ Fi a b d = some (r, c) ∧ r.length ≤ 1000000 ∧
    (c = 0 → BS a = true ∧ BS b = true ∧ BS d = true ∧ JJ r ∧ ∀ u, EB r u ↔ EB a u ∧ ¬ EB b u ∧ ¬ EB d u) := by
  unfold Fo Fi
  rw [CH (by omega), CH (by omega), CH (by omega), Hc (by omega), Hc (by omega), Hc (by omega)]
  simp only [Option.bind_some, Option.isSome_some, Option.getD_some, Bool.or_true, AN]
  by_cases h : BS a = true ∧ BS b = true ∧ BS d = true
  · obtain ⟨va, vb, vd⟩ := h
    have fa := MD va
    have fb := MD vb
    have fd := MD vd
    obtain ⟨r, r1, r2, r3, r4, r5⟩ := ZZ (a := a) (b := b ++ d) (by omega) (by simp; omega) fa (fun w hw => by
      rcases List.mem_append.1 hw with h | h
      · exact fb w h
      · exact fd w h) (fun w hw => (Du va hw).2.2)
    obtain ⟨m, m1, m2, m3, m4, m5⟩ := bN (a := a) (b := b) (by omega) (by omega) fa fb
    obtain ⟨s, s1, s2, s3, s4, s5⟩ := bN (a := m) (b := d) (by omega) (by omega) m2 fd
    have times : ∀ u, EB r u ↔ EB a u ∧ ¬ EB b u ∧ ¬ EB d u := fun u => by
      rw [r5, Fe, not_or]
    have same : r = s := Oa r2 s2 r3 s3 fun u => by
      rw [times, s5, m5, and_assoc]
    rw [va, vb, vd, kc (by omega)]
    simp only [Bool.not_true, Bool.or_self, Bool.false_eq_true, if_false, Option.bind_some]
    rw [Bu (by omega), AN, r1, m1]
    simp only [Option.bind_some]
    rw [s1, ← same]
    simp only [Option.bind_some, GS]
    by_cases c1 : (((r.length : Int) == 0) && decide (0 < (a.length : Int))) = true
    · rw [if_pos c1, if_pos c1]
      exact ⟨[], 10, rfl, rfl, by simp, fun c => absurd c (by omega)⟩
    · rw [if_neg c1, if_neg c1]
      by_cases c2 : (30 : Int) < (r.length : Int)
      · simp only [c2, decide_true, if_true, Option.bind_some]
        exact ⟨[], 5, rfl, rfl, by simp, fun c => absurd c (by omega)⟩
      · simp only [c2, decide_false, Bool.false_eq_true, if_false, Option.bind_some]
        exact ⟨r, 0, rfl, rfl, r4, fun _ => ⟨trivial, trivial, trivial, r2, times⟩⟩
  · have e : ((!BS a || !BS b) || !BS d) = true := by
      cases h1 : BS a <;> cases h2 : BS b <;> cases h3 : BS d <;> simp_all
    rw [if_pos e, if_pos e]
    exact ⟨[], 1, rfl, rfl, by simp, fun c => absurd c (by omega)⟩
theorem dc {a b d r : List AA} (va : BS a = true) (vb : BS b = true) (vd : BS d = true) (hr : r.length ≤ 1000000) (fr : JJ r) (hin : ∀ u, EB r u ↔ EB a u ∧ ¬ EB b u ∧ ¬ EB d u) :
    AJ (DA a b d r) 0 = some (.inl ()) := by
  rw [JK (step := DA a b d r) (fun _ => true) r.length true (yes := .inl ()) (no := .inr false) (by simp) (fun i hi => by
    obtain ⟨w, hw⟩ : ∃ w, r.getD i default = w := ⟨_, rfl⟩
    have hm : w ∈ r := by rw [← hw]; exact Fq hi default
    have fw := fr w hm
    obtain ⟨p1, p2, p3⟩ := (hin w.From).1 ⟨w, hm, by omega, by omega⟩
    obtain ⟨q1, q2, q3⟩ := (hin w.To).1 ⟨w, hm, by omega, by omega⟩
    have bnd : ∀ u, EB a u → 0 ≤ u ∧ u ≤ 10000000 := fun u ⟨v, hv, k⟩ => by have := Du va hv; omega
    have b1 := bnd _ p1
    have b2 := bnd _ q1
    have x1 : Yi a w.From = true := KE.2 p1
    have x2 : Yi b w.From = false := by rw [← Bool.not_eq_true]; exact fun c => p2 (KE.1 c)
    have x3 : Yi d w.To = false := by rw [← Bool.not_eq_true]; exact fun c => q3 (KE.1 c)
    unfold DA
    dsimp only
    rw [if_pos (decide_eq_true (by omega)), Bp, decide_eq_true hi, AN]
    simp only [Int.toNat_natCast, hw]
    rw [ao va b1.1 b1.2, Option.bind_some, ao vb b1.1 b1.2, Option.bind_some, ao vd b2.1 b2.2, Option.bind_some, BR (by omega)]
    simp only [x1, x2, x3]
    rfl) (by simp [DA])]
  rfl
theorem nY : Gs = DA := rfl
theorem jo {code : List UInt8} (w : code.length ≤ maxLen) : Im code = some true := by
  unfold Im KA
  rw [Option.bind_some]
  by_cases hb : (4096 : Int) < (code.length : Int)
  · simp [hb]
  have hc : code.length ≤ 1099511627776 := by omega
  rw [if_neg (by simpa using hb)]
  obtain ⟨a, b, d, e1, ha, hb', hd⟩ := ZU hc
  obtain ⟨r, c1, e2, e3, hr, k1⟩ := fG (a := a) (b := b) (d := d) (by omega) (by omega) (by omega)
  obtain ⟨p, q, du, da, e4⟩ := Ux hc
  obtain ⟨n, c2, e5, e6, hn, k2⟩ := ZP p q du da
  obtain ⟨l, lt, e7, hl⟩ := ZT hc
  obtain ⟨e8, e9⟩ := WA (l := l) (by omega) lt
  obtain ⟨t, e10, e11, ht⟩ := ZV hc
  obtain ⟨k, c5, e12, e13, k5⟩ := Xf (l := t) (by omega)
  have e14 := HS (l := t) (by omega)
  have e15 := Pm (l := t) (by omega)
  obtain ⟨s, e16, hs⟩ := Xk hc
  obtain ⟨y, e17, e18, hy⟩ := ak hs
  obtain ⟨x, z, e19, hx, hz⟩ := Xj hc
  have e20 := CH (l := t) (by omega)
  have e21 : Dp t = some (BS t) := by unfold Dp; rw [Hc (by omega)]; rfl
  have e22 := CH (l := n) (by omega)
  obtain ⟨lg, c3, hlg⟩ : ∃ lg c3, (if BS l = true then (if (decide (1 ≤ lt) && decide (lt ≤ 10000001)) = true then (JS l lt, (0 : Int)) else ([], 2)) else ([], 1)) = (lg, c3) := ⟨_, _, rfl⟩
  rw [hlg] at e8 e9
  have hlgl : lg.length ≤ 1000000 := by
    have := cu l lt
    split at hlg
    · split at hlg
      · cases hlg; omega
      · cases hlg; simp
    · cases hlg; simp
  have s1 : AH r r = some true := by rw [IL (by omega)]; simp
  have s2 : AH n n = some true := by rw [IL (by omega)]; simp
  have s3 : AH lg lg = some true := by rw [IL (by omega)]; simp
  have s4 : AH y.1 y.1 = some true := by rw [IL (by omega)]; simp
  have s5 := IL (a := x) (b := z) (by omega)
  have s6 : Cp x z = some (decide (x = z)) := by rw [Zl, s5]
  obtain ⟨T, hT⟩ : ∃ T, (if BS t = true then CM t else []) = T := ⟨_, rfl⟩
  rw [hT] at e14 e15
  obtain ⟨bk, e23, hbk⟩ : ∃ bk, CL T = some (bk, true) ∧ ∃ v, AH bk t = some v ∧ ((!(T == ([] : List UInt8))) && !v) = false := by
    by_cases hv : BS t = true
    · rw [if_pos hv] at hT
      subst hT
      exact ⟨t, Mm hv, true, by rw [IL (by omega)]; simp, by simp⟩
    · rw [if_neg hv] at hT
      subst hT
      exact ⟨[], Mm (l := []) rfl, _, IL (by simp), by simp⟩
  obtain ⟨v, e24, hv⟩ := hbk
  have tail : (if (!(c1 == 0)) = true then some true else (AJ (DA a b d r) 0).bind fun y_47 =>
              match y_47 with
              | .inl y_47a =>
                some true
              | .inr y_47b =>
                some y_47b) = some true := by
    by_cases h : c1 = 0
    · obtain ⟨va, vb, vd, fr, hin⟩ := k1 h
      rw [if_neg (by simp [h]), dc va vb vd hr fr hin]
      rfl
    · rw [if_pos (by simpa using h)]
  have mid : ((c2 == 0) && ((!((n.length : Int) == q)) || (!BS n))) = false := by
    by_cases h : c2 = 0
    · obtain ⟨m1, m2⟩ := k2 h
      simp [m1, m2]
    · have : (c2 == 0) = false := by simpa using h
      rw [this]; rfl
  simp only [e1, e2, e3, e4, e5, e6, e7, e8, e9, e10, e11, e12, e13, e14, e15, e16, e17, e18, e19, e20, e21, e22, e23, e24, s1, s2, s3, s4, s5, s6, Option.bind_some, Option.isSome_some, Option.getD_some, Bool.or_true, AN, beq_self_eq_true, Bool.not_true, Bool.or_self, Bool.false_or, Bool.or_false, hv, Bool.false_eq_true, if_false, mid, nY]
  split
  · rename_i h5
    have h5 : c5 = 0 := by simpa using h5
    obtain ⟨vt, j, rfl, hj, hlt⟩ := k5 h5
    obtain ⟨f1, f2, f3⟩ := YS vt hj hlt
    rw [Bp, decide_eq_true hj, AN, Int.toNat_natCast, f1, Option.bind_some]
    have f4 : decide (((JS t (Dq (t.getD j default) + 1)).length : Int) < 1) = false := decide_eq_false (by omega)
    simp only [f3, f4, DL (show (0 : Int) ≤ 0 by omega) (show (0 : Int) < ((JS t (Dq (t.getD j default) + 1)).length : Int) by omega), Bool.or_true, AN, beq_self_eq_true, Bool.not_true, Bool.and_self, Bool.or_self, Bool.false_eq_true, if_false]
    exact tail
  · exact tail
end Go.Proofs.YthdmeanbdohehaaGreatDoor
