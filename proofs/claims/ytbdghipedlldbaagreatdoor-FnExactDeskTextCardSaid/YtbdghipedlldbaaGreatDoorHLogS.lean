/- What typed forms say: the reference's and the program's reading of a log are the pure one. No condition. -/
import Derived.Test.YtbdghipedlldbaaGreatDoorHLog
namespace Go.Proofs.YtbdghipedlldbaaGreatDoor
open Go Go.RowKit
set_option linter.unusedSimpArgs false
set_option linter.unusedVariables false

theorem drop_get {s a r : List UInt8} {i j : Nat} (h : s.drop i = a ++ r) (hj : j < a.length) : i + j < s.length ∧ s.getD (i + j) 0 = a.getD j 0 := by
  have hl := congrArg List.length h
  simp only [List.length_drop, List.length_append] at hl
  refine ⟨by omega, ?_⟩
  have := congrArg (fun l => l[j]?) h
  simp only [List.getElem?_drop] at this
  rw [List.getD_eq_getElem?_getD, this, List.getElem?_append_left hj, List.getD_eq_getElem?_getD]

theorem end_loop {R : L27R} {i : Nat} {a r : List UInt8} (hd : R.s_.drop i = a ++ r) (h10 : 10 ∉ a) (hr : r = [] ∨ ∃ b, r = 10 :: b) (hi : i ≤ R.s_.length) (hl : R.s_.length ≤ 1048576) (t2 : Bool) :
    whileE (spec_l27R_lineA_l1 R t2) (i : Int) = some ((i + a.length : Nat) : Int) := by
  have hlen := congrArg List.length hd
  simp only [List.length_drop, List.length_append] at hlen
  have := whileE_run (step := spec_l27R_lineA_l1 R t2) (fun j => ((i + j : Nat) : Int)) a.length (r := ((i + a.length : Nat) : Int)) (fun j hj => ?_) ?_
  · exact this
  · obtain ⟨h1, h2⟩ := drop_get hd hj
    have hne : (((a.getD j 0).toNat : Int) == 10) = false := by
      rw [beq_eq_false_iff_ne]
      intro c
      refine h10 ?_
      have hm : a.getD j 0 ∈ a := by rw [List.getD_eq_getElem?_getD, List.getElem?_eq_getElem hj]; exact List.getElem_mem hj
      have : a.getD j 0 = 10 := by rw [← UInt8.toNat_inj]; exact Int.ofNat.inj c
      rwa [this] at hm
    simp only [spec_l27R_lineA_l1, Int.ofNat_lt, h1, decide_true, ixOk_nat, Bool.not_true, Bool.or_true, ck_true, Int.toNat_natCast, h2, hne, Bool.not_false, Bool.and_self, if_true, wrap_nat1 (show i + j < 9223372036854775807 by omega), Nat.add_assoc]
  · rcases hr with rfl | ⟨b, rfl⟩
    · have e : ¬ (i + a.length < R.s_.length) := by simp at hlen; omega
      simp only [spec_l27R_lineA_l1, Int.ofNat_lt, e, decide_false, Bool.not_false, Bool.true_or, ck_true, Bool.false_and, Bool.false_eq_true, if_false]
    · simp only [List.length_cons] at hlen
      have h1 : i + a.length < R.s_.length := by omega
      have h2 : R.s_.getD (i + a.length) 0 = 10 := by
        have := congrArg (fun l => l[a.length]?) hd
        simp only [List.getElem?_drop] at this
        rw [List.getD_eq_getElem?_getD, this, List.getElem?_append_right (Nat.le_refl _)]
        simp
      have e10 : (((10 : UInt8).toNat : Int) == 10) = true := rfl
      simp only [spec_l27R_lineA_l1, Int.ofNat_lt, h1, decide_true, ixOk_nat, Bool.not_true, Bool.or_true, ck_true, Int.toNat_natCast, h2, e10, Bool.and_false, Bool.false_eq_true, if_false]

theorem cut_at {s a r : List UInt8} {i : Nat} (h : s.drop i = a ++ r) : cut s (i : Int) ((i + a.length : Nat) : Int) = a := by
  simp only [cut, Int.toNat_natCast]
  rw [List.drop_take, h]
  simp

theorem cut_rest {s : List UInt8} {i : Nat} : cut s (i : Int) (s.length : Int) = s.drop i := by
  simp [cut]

/-- The reader whose state is s. -/
def rOf (log : List UInt8) (s : List Entry × Nat × Int) : L27R := ⟨log, (s.2.1 : Int), s.2.2, s.1⟩

theorem day_is {log : List UInt8} {s : List Entry × Nat × Int} (hl : s.1.length ≤ 1048576) : spec_l27R_day (rOf log s) = some (dayOf s.1) := by
  unfold spec_l27R_day dayOf rOf
  by_cases h : s.1.length = 0
  · simp [h]
  · have e : (((s.1.length : Nat) : Int) == 0) = false := by rw [beq_eq_false_iff_ne]; omega
    have w : IntKind.i64.wrap ((s.1.length : Int) - 1) = ((s.1.length - 1 : Nat) : Int) := by rw [wrap_i64 (by omega) (by omega)]; omega
    simp only [e, Bool.false_eq_true, if_false, w, if_neg h, Int.toNat_natCast]
    rw [ixOk_of (by omega) (by omega), ck_true]

theorem join_four {p0 p1 p2 p3 : List UInt8} : joinOn 32 [p0, p1, p2, p3] = p0 ++ 32 :: (p1 ++ 32 :: (p2 ++ 32 :: p3)) := rfl

theorem split_four {a p0 p1 p2 p3 : List UInt8} (h : splitOn 32 a = [p0, p1, p2, p3]) : a = p0 ++ 32 :: (p1 ++ 32 :: (p2 ++ 32 :: p3)) := by
  have := join_splitAcc 32 a []
  rw [List.nil_append] at this
  rw [← this, ← join_four, ← h]; rfl

theorem four_parts {ps : List (List UInt8)} (h : ps.length = 4) : ∃ p0 p1 p2 p3, ps = [p0, p1, p2, p3] := by
  match ps, h with
  | [p0, p1, p2, p3], _ => exact ⟨p0, p1, p2, p3, rfl⟩

theorem l27Line_is {e : Entry} (h : oneN e = true) {n : Int} (h0 : 0 ≤ n) (h1 : n ≤ 65520) : spec_l27Line n e = some (((wordsN e ++ [32]) ++ Lib.itoa n) ++ [10]) := by
  have l1 := words_len h
  have l2 := itoa_len (n := n) ⟨by omega, by omega⟩
  unfold spec_l27Line
  rw [l27Words_is h, l01Dec_is (n := n) ⟨by omega, by omega⟩]
  simp only [Option.bind_some]
  rw [catOk_of (by simp; omega), ck_true, catOk_of (by simp; omega), ck_true, catOk_of (by simp; omega), ck_true]

/-- The reference's line. -/
theorem line_is {log : List UInt8} {s : List Entry × Nat × Int} (h : LInv log s) (hl : log.length ≤ 1048576) :
    spec_l27R_line (rOf log s) = match stepP log s.2.1 s.2.2 (dayOf s.1) with
      | none => some (false, rOf log s)
      | some q => some (true, rOf log (s.1 ++ [q.2.1], q.1, q.2.2)) := by
  obtain ⟨es, i, last⟩ := s
  have hi : i ≤ log.length := h.at_
  have hfew : es.length ≤ i := h.few
  have h0 : 0 ≤ last := h.lo
  have h1 : last ≤ 65520 := h.hi
  have hday := day_is (log := log) (s := (es, i, last)) (by show es.length ≤ 1048576; omega)
  unfold spec_l27R_line spec_l27R_lineA stepP
  simp only
  rcases idx_cases 10 (log.drop i) with ⟨_, hn⟩ | ⟨a, b, hab, hn, _⟩
  · have hw := end_loop (R := rOf log (es, i, last)) (a := log.drop i) (r := []) (by simp [rOf]) hn (.inl rfl) hi hl false
    have e : i + (log.drop i).length = log.length := by simp; omega
    rw [e] at hw
    rw [show (rOf log (es, i, last)).at_ = (i : Int) from rfl, hw, cut_no hn]
    have e2 : decide (((rOf log (es, i, last)).s_.length : Int) ≤ ((log.length : Nat) : Int)) = true := by simp [rOf]
    simp only [Option.bind_some, e2, if_true]
  · have hw := end_loop (R := rOf log (es, i, last)) (a := a) (r := 10 :: b) hab hn (.inr ⟨b, rfl⟩) hi hl false
    have hlen := congrArg List.length hab
    simp only [List.length_drop, List.length_append, List.length_cons] at hlen
    rw [show (rOf log (es, i, last)).at_ = (i : Int) from rfl, show (rOf log (es, i, last)).s_ = log from rfl, show (rOf log (es, i, last)).stamp_ = last from rfl, show (rOf log (es, i, last)).list_ = es from rfl, hw, hab, cut_yes hn]
    have e2 : decide ((log.length : Int) ≤ ((i + a.length : Nat) : Int)) = false := by simp; omega
    simp only [Option.bind_some, e2, Bool.false_eq_true, if_false]
    rw [cutOk_of (by omega) (by omega) (by omega), ck_true, cut_at hab, l01Split_is 32 (by omega)]
    simp only [Option.bind_some]
    unfold lineP
    by_cases hps : (splitOn 32 a).length = 4
    · obtain ⟨p0, p1, p2, p3, hsp⟩ := four_parts hps
      have ha := split_four hsp
      have hla := congrArg List.length ha
      simp only [List.length_append, List.length_cons] at hla
      rw [hsp]
      have q0 : [p0, p1, p2, p3].getD 0 default = p0 := rfl
      have q1 : [p0, p1, p2, p3].getD 1 default = p1 := rfl
      have q2 : [p0, p1, p2, p3].getD 2 default = p2 := rfl
      have k0 : ixOk 0 [p0, p1, p2, p3].length = true := rfl
      have k1 : ixOk 1 [p0, p1, p2, p3].length = true := rfl
      have k2 : ixOk 2 [p0, p1, p2, p3].length = true := rfl
      have k4 : ((([p0, p1, p2, p3].length : Nat) : Int) == 4) = true := rfl
      simp only [k4, Bool.not_true, Bool.false_eq_true, if_false, k0, k1, k2, q0, q1, q2, ck_true]
      rw [l01Number_is (s := p0) (by omega), l01Number_is (s := p2) (by omega)]
      simp only [Option.bind_some, l27Ok_is, hday, Option.isSome_some, Bool.or_true, ck_true, Option.getD_some]
      unfold psP partsP
      simp only
      generalize hd : (rdDec p0).1 = d
      generalize hv : (rdDec p2).1 = v
      by_cases hc : ((((rdDec p0).2 && (rdDec p2).2) && oneN ⟨d, p1, v⟩) && decide (dayOf es ≤ d)) = true
      · have hc2 : ((((!(rdDec p0).2) || (!(rdDec p2).2)) || (!(oneN ⟨d, p1, v⟩))) || decide (d < dayOf es)) = false := by
          simp only [Bool.and_eq_true, decide_eq_true_eq] at hc
          obtain ⟨⟨⟨c1, c2⟩, c3⟩, c4⟩ := hc
          simp only [c1, c2, c3, Bool.not_true, Bool.or_self, Bool.false_or, decide_eq_false_iff_not]
          omega
        rw [hc, hc2]
        simp only [Bool.and_eq_true, decide_eq_true_eq] at hc
        obtain ⟨⟨⟨c1, c2⟩, c3⟩, c4⟩ := hc
        obtain ⟨s1, s2, s3, s4⟩ := stampF_is c3 h0 h1
        have e0 := (rdDec_itoa c1).1
        have e2 := (rdDec_itoa c2).1
        rw [hd] at e0
        rw [hv] at e2
        simp only [Bool.false_eq_true, if_false, l27Words_is c3, Option.bind_some, s1, l27Line_is c3 s3 s4]
        have w : IntKind.i64.wrap (((i + a.length : Nat) : Int) + 1) = ((i + (a ++ [10]).length : Nat) : Int) := by
          rw [wrap_nat1 (by omega)]; simp [Nat.add_assoc]
        rw [w, cutOk_of (by omega) (by omega) (by simp; omega), ck_true, cut_at (a := a ++ [10]) (r := b) (by rw [hab]; simp)]
        have heq : ((((wordsN ⟨d, p1, v⟩ ++ [32]) ++ Lib.itoa (stampF last ⟨d, p1, v⟩)) ++ [10]) == a ++ [10]) = decide (Lib.itoa (stampF last ⟨d, p1, v⟩) = p3) := by
          rw [Bool.eq_iff_iff, beq_iff_eq, decide_eq_true_eq, List.append_cancel_right_eq, ha]
          simp only [wordsN, e0, e2, List.append_assoc, List.singleton_append, List.cons_append, List.nil_append]
          constructor
          · intro h
            have h := List.append_cancel_left h
            have h := List.append_cancel_left (List.cons.inj h).2
            have h := List.append_cancel_left (List.cons.inj h).2
            exact (List.cons.inj h).2
          · intro h; rw [h]
        rw [heq]
        by_cases hp : Lib.itoa (stampF last ⟨d, p1, v⟩) = p3
        · simp only [hp, decide_true, Bool.not_true, Bool.false_eq_true, if_false, Bool.and_self, if_true, Option.map_some, Option.bind_some]
          rw [appOk_of (by simp; omega), ck_true]
          rw [wrap_nat1 (show i + a.length < 9223372036854775807 by omega)]
          rfl
        · simp only [hp, decide_false, Bool.not_false, if_true, Bool.and_false, Bool.false_eq_true, if_false, Option.map_none, Option.bind_some]
      · have hc1 := Bool.eq_false_iff.2 hc
        have hc2 : ((((!(rdDec p0).2) || (!(rdDec p2).2)) || (!(oneN ⟨d, p1, v⟩))) || decide (d < dayOf es)) = true := by
          have e : decide (d < dayOf es) = !decide (dayOf es ≤ d) := by
            by_cases c : dayOf es ≤ d
            · simp [c, Int.not_lt.2 c]
            · simp [c, Int.not_le.1 c]
          rw [e, ← Bool.not_and, ← Bool.not_and, ← Bool.not_and, hc1]; rfl
        rw [hc1, hc2]
        simp only [if_true, Bool.false_and, Bool.false_eq_true, if_false, Option.map_none, Option.bind_some]
    · have k4 : (((((splitOn 32 a).length : Nat) : Int)) == 4) = false := by rw [beq_eq_false_iff_ne]; omega
      simp only [k4, Bool.not_false, if_true, psP_ne hps, Option.map_none, Option.bind_some]

/-- The reference's reading. -/
theorem l27Read_is {log : List UInt8} (hl : log.length ≤ 1048576) : spec_l27Read log = some (rOf log (logP log)) := by
  unfold spec_l27Read
  exact read_loop (step := spec_l27Read_l1) (log := log) (fun s => rOf log s) (fun s => rOf log s) (fun s hs => by
    show (spec_l27R_line (rOf log s)).bind _ = _
    rw [line_is hs hl]
    cases stepP log s.2.1 s.2.2 (dayOf s.1) with
    | none => rfl
    | some q => rfl) (log.length + 1) ([], 0, 0) (start_inv log) (by show log.length < log.length + 1 + 0; omega)

/-! ### The program -/

theorem bool_aux {a b c o t z : Bool} (h : (c && z) = false) : (((((a && b) && c) && o) && t) && z) = false := by
  revert h; cases a <;> cases b <;> cases c <;> cases o <;> cases t <;> cases z <;> simp

theorem readEntry_is {line : List UInt8} (hl : line.length ≤ 1048576) :
    ∃ e m ok, impl_readEntry line = some (e, m, ok) ∧ ∀ last day : Int, 0 ≤ last → last ≤ 65520 →
      ((ok && decide (day ≤ e.Day)) = true → oneN e = true) ∧
      lineP last day line = if (ok && decide (day ≤ e.Day)) && decide (m = stampF last e) then some (e, m) else none := by
  unfold impl_readEntry lineP
  rw [hSplit_one (by omega)]
  simp only [Option.bind_some]
  by_cases hps : (splitOn 32 line).length = 4
  · obtain ⟨p0, p1, p2, p3, hsp⟩ := four_parts hps
    have ha := split_four hsp
    have hla := congrArg List.length ha
    simp only [List.length_append, List.length_cons] at hla
    rw [hsp]
    have q0 : [p0, p1, p2, p3].getD 0 default = p0 := rfl
    have q1 : [p0, p1, p2, p3].getD 1 default = p1 := rfl
    have q2 : [p0, p1, p2, p3].getD 2 default = p2 := rfl
    have q3 : [p0, p1, p2, p3].getD 3 default = p3 := rfl
    have k0 : ixOk 0 [p0, p1, p2, p3].length = true := rfl
    have k1 : ixOk 1 [p0, p1, p2, p3].length = true := rfl
    have k2 : ixOk 2 [p0, p1, p2, p3].length = true := rfl
    have k3 : ixOk 3 [p0, p1, p2, p3].length = true := rfl
    have k4 : ((([p0, p1, p2, p3].length : Nat) : Int) == 4) = true := rfl
    simp only [k4, Bool.not_true, Bool.false_eq_true, if_false, k0, k1, k2, k3, q0, q1, q2, q3, ck_true]
    rw [hRdDec_eq (s := p0) (by omega), hRdDec_eq (s := p2) (by omega), hRdDec_eq (s := p3) (by omega)]
    simp only [Option.bind_some, ValidEntry_is, Option.isSome_some, Bool.or_true, ck_true, Option.getD_some]
    refine ⟨_, _, _, rfl, fun last day h0 h1 => ?_⟩
    unfold psP partsP
    simp only
    generalize hd : (rdDec p0).1 = d
    generalize hv : (rdDec p2).1 = v
    refine ⟨fun h => ?_, ?_⟩
    · simp only [Bool.and_eq_true] at h
      exact h.1.2
    · by_cases hone : oneN ⟨d, p1, v⟩ = true
      · obtain ⟨_, _, s3, s4⟩ := stampF_is hone h0 h1
        by_cases hp : Lib.itoa (stampF last ⟨d, p1, v⟩) = p3
        · have hr : rdDec p3 = (stampF last ⟨d, p1, v⟩, true) := by rw [← hp]; exact rdDec_small s3 s4
          simp only [hr, hp, decide_true, Bool.and_true]
        · have hn : ((rdDec p3).2 && decide ((rdDec p3).1 = stampF last ⟨d, p1, v⟩)) = false := by
            cases c : (rdDec p3).2 with
            | false => rfl
            | true =>
              rw [Bool.true_and, decide_eq_false_iff_not]
              intro e
              exact hp (by rw [← e]; exact (rdDec_itoa c).1)
          have hn2 : ((((((rdDec p0).2 && (rdDec p2).2) && (rdDec p3).2) && oneN ⟨d, p1, v⟩) && decide (day ≤ d)) && decide ((rdDec p3).1 = stampF last ⟨d, p1, v⟩)) = false := bool_aux hn
          simp only [hp, decide_false, Bool.and_false, Bool.false_eq_true, if_false]
          rw [hn2]
          rfl
      · have hone := Bool.eq_false_iff.2 hone
        simp only [hone, Bool.and_false, Bool.false_and, Bool.false_eq_true, if_false]
  · have k4 : (((((splitOn 32 line).length : Nat) : Int)) == 4) = false := by rw [beq_eq_false_iff_ne]; omega
    simp only [k4, Bool.not_false, if_true, psP_ne hps]
    refine ⟨_, _, _, rfl, fun last day _ _ => ⟨fun h => ?_, ?_⟩⟩
    · simp at h
    · simp

theorem readLog_step {log : List UInt8} {s : List Entry × Nat × Int} (h : LInv log s) (hl : log.length ≤ 1048576) :
    impl_readLog_l1 log (s.1, (s.2.1 : Int), s.2.2, dayOf s.1) = match stepP log s.2.1 s.2.2 (dayOf s.1) with
      | none => some (.inr (s.1, (s.2.1 : Int), s.2.2))
      | some q => some (.inl (s.1 ++ [q.2.1], (q.1 : Int), q.2.2, dayOf (s.1 ++ [q.2.1]))) := by
  obtain ⟨es, i, last⟩ := s
  have hi : i ≤ log.length := h.at_
  have hfew : es.length ≤ i := h.few
  have h0 : 0 ≤ last := h.lo
  have h1 : last ≤ 65520 := h.hi
  unfold impl_readLog_l1 stepP
  simp only
  rw [cutOk_of (by omega) (by omega) (by omega), ck_true, cut_rest, hCut_one (by simp; omega)]
  simp only [Option.bind_some]
  rcases idx_cases 10 (log.drop i) with ⟨_, hn⟩ | ⟨a, b, hab, hn, _⟩
  · rw [cut_no hn]
    obtain ⟨e, m, ok, he, _⟩ := readEntry_is (line := log.drop i) (by simp; omega)
    simp only [he, Option.bind_some, Bool.not_false, Bool.true_or, Bool.not_true, Bool.false_or, ck_true, if_true]
  · have hlen := congrArg List.length hab
    simp only [List.length_drop, List.length_append, List.length_cons] at hlen
    rw [hab, cut_yes hn]
    obtain ⟨e, m, ok, he, hP⟩ := readEntry_is (line := a) (by omega)
    obtain ⟨hone, hP⟩ := hP last (dayOf es) h0 h1
    simp only [he, Option.bind_some, hP, Bool.not_true, Bool.false_or]
    by_cases hc : (ok && decide (dayOf es ≤ e.Day)) = true
    · have hone := hone hc
      obtain ⟨s1, s2, s3, s4⟩ := stampF_is hone h0 h1
      have hc2 : ((!ok) || decide (e.Day < dayOf es)) = false := by
        simp only [Bool.and_eq_true, decide_eq_true_eq] at hc
        simp only [hc.1, Bool.not_true, Bool.false_or, decide_eq_false_iff_not]
        omega
      simp only [hc2, hc, s2, Option.isSome_some, Bool.or_true, ck_true, Option.getD_some, Bool.false_or, Bool.true_and]
      by_cases hm : m = stampF last e
      · have e1 : (m == stampF last e) = true := by rw [hm]; exact beq_self_eq_true _
        simp only [e1, hm, decide_true, Bool.not_true, Bool.false_eq_true, if_false, if_true, Option.map_some]
        rw [appOk_of (by simp; omega), ck_true, dayOf_snoc, wrap_nat1 (show a.length < 9223372036854775807 by omega), wrap_i64 (by omega) (by omega)]
        simp [Nat.add_assoc]
      · have e1 : (m == stampF last e) = false := beq_eq_false_iff_ne.2 hm
        simp only [e1, hm, decide_false, Bool.not_false, if_true, Bool.false_eq_true, if_false, Option.map_none]
    · have hc := Bool.eq_false_iff.2 hc
      have hc2 : ((!ok) || decide (e.Day < dayOf es)) = true := by
        have e2 : decide (e.Day < dayOf es) = !decide (dayOf es ≤ e.Day) := by
          by_cases c : dayOf es ≤ e.Day
          · simp [c, Int.not_lt.2 c]
          · simp [c, Int.not_le.1 c]
        rw [e2, ← Bool.not_and, hc]; rfl
      simp only [hc2, hc, Bool.not_true, Bool.false_or, ck_true, Bool.true_or, if_true, Bool.false_and, Bool.false_eq_true, if_false, Option.map_none]
      rfl

/-- The program's reading. -/
theorem readLog_is {log : List UInt8} (hl : log.length ≤ 1048576) : impl_readLog log = some ((logP log).1, ((logP log).2.1 : Int), (logP log).2.2) := by
  unfold impl_readLog
  have := read_loop (step := impl_readLog_l1 log) (log := log) (fun s => (s.1, (s.2.1 : Int), s.2.2, dayOf s.1)) (fun s => (s.1, (s.2.1 : Int), s.2.2)) (fun s hs => readLog_step hs hl) (log.length + 1) ([], 0, 0) (start_inv log) (by show log.length < log.length + 1 + 0; omega)
  rw [show whileE (impl_readLog_l1 log) (([] : List Entry), 0, 0, 0) = _ from this]
  rfl

end Go.Proofs.YtbdghipedlldbaaGreatDoor
