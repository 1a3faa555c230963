/- Plain lemmas, several texts in one. No condition. -/
import Derived.Test.YtlcabohpeopdcaaGreatDoorHPA
/- What typed forms say: entries, their words and stamps. No condition. -/
namespace Go.Proofs.YtlcabohpeopdcaaGreatDoor
open Go Go.RowKit
set_option linter.unusedSimpArgs false
set_option linter.unusedVariables false

def oneN (e : Entry) : Bool := ((decide (0 ≤ e.Day) && decide (e.Day ≤ 100000)) && nameB e.What) && (decide (-1000000 ≤ e.Value) && decide (e.Value ≤ 1000000))

theorem l27Ok_is (e : Entry) : spec_l27Ok e = some (oneN e) := by
  unfold spec_l27Ok oneN
  simp only [spec_l27Day, spec_l00In_is, spec_IsName_is, Option.bind_some, Option.isSome_some, Option.getD_some, Bool.or_true, ck_true]

theorem ValidEntry_is (e : Entry) : impl_ValidEntry e = some (oneN e) := by
  unfold impl_ValidEntry oneN
  simp only [impl_in_is, impl_IsName_is, Option.bind_some, Option.isSome_some, Option.getD_some, Bool.or_true, ck_true]

theorem nameB_len {s : List UInt8} (h : nameB s = true) : 1 ≤ s.length ∧ s.length ≤ 12 := by
  unfold nameB at h
  simp only [Bool.and_eq_true, decide_eq_true_eq] at h
  exact ⟨h.1, h.2.1⟩

theorem oneN_in {e : Entry} (h : oneN e = true) : 0 ≤ e.Day ∧ e.Day ≤ 100000 ∧ e.What.length ≤ 12 ∧ -1000000 ≤ e.Value ∧ e.Value ≤ 1000000 := by
  unfold oneN at h
  simp only [Bool.and_eq_true, decide_eq_true_eq] at h
  obtain ⟨⟨⟨h1, h2⟩, h3⟩, h4, h5⟩ := h
  exact ⟨h1, h2, (nameB_len h3).2, h4, h5⟩

def wordsN (e : Entry) : List UInt8 := (((Lib.itoa e.Day ++ [32]) ++ e.What) ++ [32]) ++ Lib.itoa e.Value

theorem words_len {e : Entry} (h : oneN e = true) : (wordsN e).length ≤ 60 := by
  obtain ⟨h1, h2, h3, h4, h5⟩ := oneN_in h
  have l1 := itoa_len (n := e.Day) ⟨by omega, by omega⟩
  have l2 := itoa_len (n := e.Value) ⟨by omega, by omega⟩
  simp only [wordsN, List.length_append, List.length_cons, List.length_nil]
  omega

theorem l27Words_is {e : Entry} (h : oneN e = true) : spec_l27Words e = some (wordsN e) := by
  obtain ⟨h1, h2, h3, h4, h5⟩ := oneN_in h
  have l1 := itoa_len (n := e.Day) ⟨by omega, by omega⟩
  have l2 := itoa_len (n := e.Value) ⟨by omega, by omega⟩
  unfold spec_l27Words
  rw [l01Dec_is (n := e.Day) ⟨by omega, by omega⟩, l01Dec_is (n := e.Value) ⟨by omega, by omega⟩]
  simp only [Option.bind_some]
  rw [catOk_of (by simp; omega), ck_true, catOk_of (by simp; omega), ck_true, catOk_of (by simp; omega), ck_true, catOk_of (by simp; omega), ck_true]
  rfl

theorem words_is {e : Entry} (h : oneN e = true) : impl_Entry_words e = some (wordsN e) := by
  obtain ⟨h1, h2, h3, h4, h5⟩ := oneN_in h
  have l1 := itoa_len (n := e.Day) ⟨by omega, by omega⟩
  have l2 := itoa_len (n := e.Value) ⟨by omega, by omega⟩
  unfold impl_Entry_words
  rw [Decimal_is (n := e.Day) ⟨by omega, by omega⟩, Decimal_is (n := e.Value) ⟨by omega, by omega⟩]
  simp only [Option.bind_some]
  rw [catOk_of (by simp; omega), ck_true, catOk_of (by simp; omega), ck_true, catOk_of (by simp; omega), ck_true, catOk_of (by simp; omega), ck_true]
  rfl

theorem stamp_step (w : List UInt8) : impl_stamp_l1 w (w.length : Int) = spec_l27Stamp_l1 w := id rfl

theorem stamp_loop {w : List UInt8} (hl : w.length ≤ 1099511627776) {n : Int} (h0 : 0 ≤ n) (h1 : n ≤ 65520) : ∃ s, whileE (spec_l27Stamp_l1 w) (n, 0) = some s ∧ 0 ≤ s ∧ s ≤ 65520 :=
  while_post (step := spec_l27Stamp_l1 w) (fun s => 0 ≤ s.1 ∧ s.1 ≤ 65520 ∧ ∃ i : Nat, s.2 = (i : Int) ∧ i ≤ w.length) (fun s => 0 ≤ s ∧ s ≤ 65520) (fun s => w.length - s.2.toNat) (by
    rintro ⟨s, ii⟩ ⟨h1, h2, i, rfl, hi⟩
    simp only at h1 h2
    by_cases h : i < w.length
    · left
      have hb := u8_lt (w.getD i 0)
      have w1 : IntKind.i64.wrap (31 * s) = 31 * s := wrap_i64 (by omega) (by omega)
      have w2 : IntKind.i64.wrap (31 * s + ((w.getD i 0).toNat : Int)) = 31 * s + ((w.getD i 0).toNat : Int) := wrap_i64 (by omega) (by omega)
      have t1 : (31 * s + ((w.getD i 0).toNat : Int)).tmod 65521 = (31 * s + ((w.getD i 0).toNat : Int)) % 65521 := Int.tmod_eq_emod_of_nonneg (by omega)
      simp only [spec_l27Stamp_l1, Int.ofNat_lt, h, decide_true, if_true, ixOk_nat, ck_true, Int.toNat_natCast, wrap_nat1 (show i < 9223372036854775807 by omega), nz_of (show (65521 : Int) ≠ 0 by decide), w1, w2, t1]
      exact ⟨_, rfl, ⟨by show 0 ≤ _ % 65521; omega, by show _ % 65521 ≤ 65520; omega, i + 1, rfl, by omega⟩, by simp only [Int.toNat_natCast]; omega⟩
    · right
      exact ⟨s, by simp [spec_l27Stamp_l1, h], h1, h2⟩) (s := (n, 0)) ⟨h0, h1, 0, rfl, by omega⟩

theorem stamp_is {e : Entry} (h : oneN e = true) {n : Int} (h0 : 0 ≤ n) (h1 : n ≤ 65520) : ∃ s, spec_l27Stamp n (wordsN e) = some s ∧ impl_stamp n e = some s ∧ 0 ≤ s ∧ s ≤ 65520 := by
  have w1 : IntKind.i64.wrap (n + 23) = n + 23 := wrap_i64 (by omega) (by omega)
  have t1 : (n + 23).tmod 65521 = (n + 23) % 65521 := Int.tmod_eq_emod_of_nonneg (by omega)
  have hl := words_len h
  obtain ⟨s, hs, s0, s1⟩ := stamp_loop (w := wordsN e) (by omega) (n := (n + 23) % 65521) (by omega) (by omega)
  refine ⟨s, ?_, ?_, s0, s1⟩
  · unfold spec_l27Stamp
    rw [nz_of (show (65521 : Int) ≠ 0 by decide), ck_true, w1, t1, hs]; rfl
  · unfold impl_stamp
    rw [nz_of (show (65521 : Int) ≠ 0 by decide), ck_true, words_is h]
    simp only [Option.bind_some, stamp_step, w1, t1, hs]

end Go.Proofs.YtlcabohpeopdcaaGreatDoor

/- What typed forms say: the log of entries is made, by the program and by the reference. No condition. -/
namespace Go.Proofs.YtlcabohpeopdcaaGreatDoor
open Go Go.RowKit
set_option linter.unusedSimpArgs false
set_option linter.unusedVariables false

noncomputable def stampF (last : Int) (e : Entry) : Int := (impl_stamp last e).getD 0


theorem stampF_is {e : Entry} (h : oneN e = true) {n : Int} (h0 : 0 ≤ n) (h1 : n ≤ 65520) : spec_l27Stamp n (wordsN e) = some (stampF n e) ∧ impl_stamp n e = some (stampF n e) ∧ 0 ≤ stampF n e ∧ stampF n e ≤ 65520 := by
  obtain ⟨s, h2, h3, h4, h5⟩ := stamp_is h h0 h1
  have : stampF n e = s := by unfold stampF; rw [h3]; rfl
  rw [this]
  exact ⟨h2, h3, h4, h5⟩


theorem l27Line_is {e : Entry} (h : oneN e = true) {n : Int} (h0 : 0 ≤ n) (h1 : n ≤ 65520) : spec_l27Line n e = some (((wordsN e ++ [32]) ++ Lib.itoa n) ++ [10]) := by
  have l1 := words_len h
  have l2 := itoa_len (n := n) ⟨by omega, by omega⟩
  unfold spec_l27Line
  rw [l27Words_is h, l01Dec_is (n := n) ⟨by omega, by omega⟩]
  simp only [Option.bind_some]
  rw [catOk_of (by simp; omega), ck_true, catOk_of (by simp; omega), ck_true, catOk_of (by simp; omega), ck_true]


theorem lineOf_is {e : Entry} (h : oneN e = true) {n : Int} (h0 : 0 ≤ n) (h1 : n ≤ 65520) : impl_lineOf e n = some (((wordsN e ++ [32]) ++ Lib.itoa n) ++ [10]) := by
  have l1 := words_len h
  have l2 := itoa_len (n := n) ⟨by omega, by omega⟩
  unfold impl_lineOf
  rw [words_is h, Decimal_is (n := n) ⟨by omega, by omega⟩]
  simp only [Option.bind_some]
  rw [catOk_of (by simp; omega), ck_true, catOk_of (by simp; omega), ck_true, catOk_of (by simp; omega), ck_true]


def lineT (st : Int) (e : Entry) : List UInt8 := (wordsN e ++ [32]) ++ Lib.itoa st


noncomputable def makeP : Int → List Entry → List UInt8
  | _, [] => []
  | last, e :: es => lineT (stampF last e) e ++ 10 :: makeP (stampF last e) es


theorem lineT_len {e : Entry} (h : oneN e = true) {st : Int} (h0 : 0 ≤ st) (h1 : st ≤ 65520) : 1 ≤ (lineT st e).length ∧ (lineT st e).length ≤ 100 := by
  have l1 := words_len h
  have l2 := itoa_len (n := st) ⟨by omega, by omega⟩
  simp only [lineT, List.length_append, List.length_singleton]
  omega


theorem makeP_len : ∀ (es : List Entry) (last : Int), (∀ e, e ∈ es → oneN e = true) → 0 ≤ last → last ≤ 65520 → es.length ≤ (makeP last es).length ∧ (makeP last es).length ≤ 101 * es.length
  | [], _, _, _, _ => ⟨Nat.le_refl _, by simp [makeP]⟩
  | e :: es, last, ho, h0, h1 => by
    have hone := ho e (by simp)
    obtain ⟨_, _, s0, s1⟩ := stampF_is hone h0 h1
    have ih := makeP_len es (stampF last e) (fun x hx => ho x (by simp [hx])) s0 s1
    have hl := lineT_len hone s0 s1
    simp only [makeP, List.length_append, List.length_cons]
    omega

end Go.Proofs.YtlcabohpeopdcaaGreatDoor

/- What typed forms say: a log is read, by the program and by the reference. No condition. -/
namespace Go.Proofs.YtlcabohpeopdcaaGreatDoor
open Go Go.RowKit
set_option linter.unusedSimpArgs false
set_option linter.unusedVariables false

/-! ### A line -/

/-- The parts of a line are the words of an entry that follows, and its stamp. -/
noncomputable def partsP (last day : Int) (p0 p1 p2 p3 : List UInt8) : Option (Entry × Int) :=
  if ((((rdDec p0).2 && (rdDec p2).2) && oneN ⟨(rdDec p0).1, p1, (rdDec p2).1⟩) && decide (day ≤ (rdDec p0).1)) && decide (Lib.itoa (stampF last ⟨(rdDec p0).1, p1, (rdDec p2).1⟩) = p3)
  then some (⟨(rdDec p0).1, p1, (rdDec p2).1⟩, stampF last ⟨(rdDec p0).1, p1, (rdDec p2).1⟩) else none

noncomputable def psP (last day : Int) : List (List UInt8) → Option (Entry × Int)
  | [p0, p1, p2, p3] => partsP last day p0 p1 p2 p3
  | _ => none

theorem psP_ne {last day : Int} {ps : List (List UInt8)} (h : ps.length ≠ 4) : psP last day ps = none := by
  unfold psP
  split
  · exact absurd rfl h
  · rfl

noncomputable def lineP (last day : Int) (line : List UInt8) : Option (Entry × Int) := psP last day (splitOn 32 line)

/-- What is behind the first i bytes begins with a line that follows. -/
noncomputable def stepP (log : List UInt8) (i : Nat) (last day : Int) : Option (Nat × Entry × Int) :=
  match Lib.cut (log.drop i) [10] with
  | (line, _, true) => (lineP last day line).map fun q => (i + line.length + 1, q.1, q.2)
  | _ => none

def dayOf (es : List Entry) : Int := if es.length = 0 then 0 else (es.getD (es.length - 1) default).Day

theorem dayOf_snoc (es : List Entry) (e : Entry) : dayOf (es ++ [e]) = e.Day := by
  unfold dayOf
  rw [if_neg (by simp)]
  simp

theorem stepP_in {log : List UInt8} {i : Nat} {last day : Int} {i' : Nat} {e : Entry} {m : Int} (h : stepP log i last day = some (i', e, m)) (h0 : 0 ≤ last) (h1 : last ≤ 65520) (hi : i ≤ log.length) :
    i < i' ∧ i' ≤ log.length ∧ 0 ≤ m ∧ m ≤ 65520 ∧ oneN e = true ∧ day ≤ e.Day := by
  unfold stepP at h
  split at h
  · rename_i line x hc
    rw [Option.map_eq_some_iff] at h
    obtain ⟨⟨e', m'⟩, hl, he⟩ := h
    simp only [Prod.mk.injEq] at he
    obtain ⟨rfl, rfl, rfl⟩ := he
    unfold lineP psP at hl
    split at hl
    · unfold partsP at hl
      split at hl
      · rename_i hb
        cases hl
        simp only [Bool.and_eq_true, decide_eq_true_eq] at hb
        obtain ⟨⟨⟨_, hone⟩, hday⟩, _⟩ := hb
        obtain ⟨_, _, s0, s1⟩ := stampF_is hone h0 h1
        refine ⟨by omega, ?_, s0, s1, hone, hday⟩
        rcases idx_cases 10 (log.drop i) with ⟨_, hn⟩ | ⟨a, b, hab, hn, _⟩
        · rw [cut_no hn] at hc; cases hc
        · rw [hab, cut_yes hn] at hc
          cases hc
          have := congrArg List.length hab
          simp only [List.length_drop, List.length_append, List.length_cons] at this
          omega
      · cases hl
    · cases hl
  · cases h

/-- The longest beginning of a text that is a log, by at most f lines more. -/
noncomputable def readP (log : List UInt8) : Nat → List Entry × Nat × Int → List Entry × Nat × Int
  | 0, s => s
  | f + 1, s => match stepP log s.2.1 s.2.2 (dayOf s.1) with
    | none => s
    | some q => readP log f (s.1 ++ [q.2.1], q.1, q.2.2)

noncomputable def logP (log : List UInt8) : List Entry × Nat × Int := readP log (log.length + 1) ([], 0, 0)

structure LInv (log : List UInt8) (s : List Entry × Nat × Int) : Prop where
  at_ : s.2.1 ≤ log.length
  few : s.1.length ≤ s.2.1
  lo : 0 ≤ s.2.2
  hi : s.2.2 ≤ 65520
  ok : ∀ e, e ∈ s.1 → oneN e = true

theorem LInv.step {log : List UInt8} {s : List Entry × Nat × Int} (h : LInv log s) {q : Nat × Entry × Int} (hq : stepP log s.2.1 s.2.2 (dayOf s.1) = some q) : LInv log (s.1 ++ [q.2.1], q.1, q.2.2) := by
  obtain ⟨i', e, m⟩ := q
  obtain ⟨h1, h2, h3, h4, h5, h6⟩ := stepP_in hq h.lo h.hi h.at_
  have := h.few
  refine ⟨h2, by simp; omega, h3, h4, fun x hx => ?_⟩
  rcases List.mem_append.1 hx with hx | hx
  · exact h.ok x hx
  · rw [List.mem_singleton.1 hx]; exact h5

theorem readP_inv {log : List UInt8} : ∀ (f : Nat) {s : List Entry × Nat × Int}, LInv log s → LInv log (readP log f s)
  | 0, _, h => h
  | f + 1, s, h => by
    unfold readP
    split
    · exact h
    · rename_i q hq; exact readP_inv f (h.step hq)

theorem start_inv (log : List UInt8) : LInv log ([], 0, 0) := ⟨Nat.zero_le _, Nat.le_refl _, Int.le_refl _, by decide, fun e he => by simp at he⟩

theorem logP_inv (log : List UInt8) : LInv log (logP log) := readP_inv _ (start_inv log)

/-- A loop that goes by stepP ends where readP does. -/
theorem read_loop {σ ρ : Type} {step : σ → Option (σ ⊕ ρ)} {log : List UInt8} (E : List Entry × Nat × Int → σ) (R : List Entry × Nat × Int → ρ)
    (hs : ∀ s, LInv log s → step (E s) = match stepP log s.2.1 s.2.2 (dayOf s.1) with
      | none => some (.inr (R s))
      | some q => some (.inl (E (s.1 ++ [q.2.1], q.1, q.2.2)))) :
    ∀ (f : Nat) (s : List Entry × Nat × Int), LInv log s → log.length < f + s.2.1 → whileE step (E s) = some (R (readP log f s))
  | 0, s, h, hf => by have := h.at_; omega
  | f + 1, s, h, hf => by
    have h1 := hs s h
    unfold readP
    cases hq : stepP log s.2.1 s.2.2 (dayOf s.1) with
    | none => rw [hq] at h1; exact whileE_done h1
    | some q =>
      rw [hq] at h1
      rw [whileE_next h1]
      obtain ⟨g1, _⟩ := stepP_in (i' := q.1) (e := q.2.1) (m := q.2.2) hq h.lo h.hi h.at_
      exact read_loop E R hs f _ (h.step hq) (by show log.length < f + q.1; omega)

end Go.Proofs.YtlcabohpeopdcaaGreatDoor

/- What typed forms say: the reference's and the program's reading of a log are the pure one. No condition. -/
namespace Go.Proofs.YtlcabohpeopdcaaGreatDoor
open Go Go.RowKit
set_option linter.unusedSimpArgs false
set_option linter.unusedVariables false

theorem drop_get {s a r : List UInt8} {i j : Nat} (h : s.drop i = a ++ r) (hj : j < a.length) : i + j < s.length ∧ s.getD (i + j) 0 = a.getD j 0 := by
  have hl := congrArg List.length h
  simp only [List.length_drop, List.length_append] at hl
  refine ⟨by omega, ?_⟩
  have := congrArg (fun l => l[j]?) h
  simp only [List.getElem?_drop] at this
  rw [List.getD_eq_getElem?_getD, this, List.getElem?_append_left hj, List.getD_eq_getElem?_getD]

theorem end_loop {R : L27R} {i : Nat} {a r : List UInt8} (hd : R.s_.drop i = a ++ r) (h10 : 10 ∉ a) (hr : r = [] ∨ ∃ b, r = 10 :: b) (hi : i ≤ R.s_.length) (hl : R.s_.length ≤ 1048576) (t2 : Bool) :
    whileE (spec_l27R_lineA_l1 R t2) (i : Int) = some ((i + a.length : Nat) : Int) := by
  have hlen := congrArg List.length hd
  simp only [List.length_drop, List.length_append] at hlen
  have := whileE_run (step := spec_l27R_lineA_l1 R t2) (fun j => ((i + j : Nat) : Int)) a.length (r := ((i + a.length : Nat) : Int)) (fun j hj => ?_) ?_
  · exact this
  · obtain ⟨h1, h2⟩ := drop_get hd hj
    have hne : (((a.getD j 0).toNat : Int) == 10) = false := by
      rw [beq_eq_false_iff_ne]
      intro c
      refine h10 ?_
      have hm : a.getD j 0 ∈ a := by rw [List.getD_eq_getElem?_getD, List.getElem?_eq_getElem hj]; exact List.getElem_mem hj
      have : a.getD j 0 = 10 := by rw [← UInt8.toNat_inj]; exact Int.ofNat.inj c
      rwa [this] at hm
    simp only [spec_l27R_lineA_l1, Int.ofNat_lt, h1, decide_true, ixOk_nat, Bool.not_true, Bool.or_true, ck_true, Int.toNat_natCast, h2, hne, Bool.not_false, Bool.and_self, if_true, wrap_nat1 (show i + j < 9223372036854775807 by omega), Nat.add_assoc]
  · rcases hr with rfl | ⟨b, rfl⟩
    · have e : ¬ (i + a.length < R.s_.length) := by simp at hlen; omega
      simp only [spec_l27R_lineA_l1, Int.ofNat_lt, e, decide_false, Bool.not_false, Bool.true_or, ck_true, Bool.false_and, Bool.false_eq_true, if_false]
    · simp only [List.length_cons] at hlen
      have h1 : i + a.length < R.s_.length := by omega
      have h2 : R.s_.getD (i + a.length) 0 = 10 := by
        have := congrArg (fun l => l[a.length]?) hd
        simp only [List.getElem?_drop] at this
        rw [List.getD_eq_getElem?_getD, this, List.getElem?_append_right (Nat.le_refl _)]
        simp
      have e10 : (((10 : UInt8).toNat : Int) == 10) = true := rfl
      simp only [spec_l27R_lineA_l1, Int.ofNat_lt, h1, decide_true, ixOk_nat, Bool.not_true, Bool.or_true, ck_true, Int.toNat_natCast, h2, e10, Bool.and_false, Bool.false_eq_true, if_false]

theorem cut_at {s a r : List UInt8} {i : Nat} (h : s.drop i = a ++ r) : cut s (i : Int) ((i + a.length : Nat) : Int) = a := by
  simp only [cut, Int.toNat_natCast]
  rw [List.drop_take, h]
  simp

theorem cut_rest {s : List UInt8} {i : Nat} : cut s (i : Int) (s.length : Int) = s.drop i := by
  simp [cut]

/-- The reader whose state is s. -/
def rOf (log : List UInt8) (s : List Entry × Nat × Int) : L27R := ⟨log, (s.2.1 : Int), s.2.2, s.1⟩

theorem day_is {log : List UInt8} {s : List Entry × Nat × Int} (hl : s.1.length ≤ 1048576) : spec_l27R_day (rOf log s) = some (dayOf s.1) := by
  unfold spec_l27R_day dayOf rOf
  by_cases h : s.1.length = 0
  · simp [h]
  · have e : (((s.1.length : Nat) : Int) == 0) = false := by rw [beq_eq_false_iff_ne]; omega
    have w : IntKind.i64.wrap ((s.1.length : Int) - 1) = ((s.1.length - 1 : Nat) : Int) := by rw [wrap_i64 (by omega) (by omega)]; omega
    simp only [e, Bool.false_eq_true, if_false, w, if_neg h, Int.toNat_natCast]
    rw [ixOk_of (by omega) (by omega), ck_true]

theorem join_four {p0 p1 p2 p3 : List UInt8} : joinOn 32 [p0, p1, p2, p3] = p0 ++ 32 :: (p1 ++ 32 :: (p2 ++ 32 :: p3)) := rfl

theorem split_four {a p0 p1 p2 p3 : List UInt8} (h : splitOn 32 a = [p0, p1, p2, p3]) : a = p0 ++ 32 :: (p1 ++ 32 :: (p2 ++ 32 :: p3)) := by
  have := join_splitAcc 32 a []
  rw [List.nil_append] at this
  rw [← this, ← join_four, ← h]; rfl

theorem four_parts {ps : List (List UInt8)} (h : ps.length = 4) : ∃ p0 p1 p2 p3, ps = [p0, p1, p2, p3] := by
  match ps, h with
  | [p0, p1, p2, p3], _ => exact ⟨p0, p1, p2, p3, rfl⟩

/-- The reference's line. -/
theorem line_is {log : List UInt8} {s : List Entry × Nat × Int} (h : LInv log s) (hl : log.length ≤ 1048576) :
    spec_l27R_line (rOf log s) = match stepP log s.2.1 s.2.2 (dayOf s.1) with
      | none => some (false, rOf log s)
      | some q => some (true, rOf log (s.1 ++ [q.2.1], q.1, q.2.2)) := by
  obtain ⟨es, i, last⟩ := s
  have hi : i ≤ log.length := h.at_
  have hfew : es.length ≤ i := h.few
  have h0 : 0 ≤ last := h.lo
  have h1 : last ≤ 65520 := h.hi
  have hday := day_is (log := log) (s := (es, i, last)) (by show es.length ≤ 1048576; omega)
  unfold spec_l27R_line spec_l27R_lineA stepP
  simp only
  rcases idx_cases 10 (log.drop i) with ⟨_, hn⟩ | ⟨a, b, hab, hn, _⟩
  · have hw := end_loop (R := rOf log (es, i, last)) (a := log.drop i) (r := []) (by simp [rOf]) hn (.inl rfl) hi hl false
    have e : i + (log.drop i).length = log.length := by simp; omega
    rw [e] at hw
    rw [show (rOf log (es, i, last)).at_ = (i : Int) from rfl, hw, cut_no hn]
    have e2 : decide (((rOf log (es, i, last)).s_.length : Int) ≤ ((log.length : Nat) : Int)) = true := by simp [rOf]
    simp only [Option.bind_some, e2, if_true]
  · have hw := end_loop (R := rOf log (es, i, last)) (a := a) (r := 10 :: b) hab hn (.inr ⟨b, rfl⟩) hi hl false
    have hlen := congrArg List.length hab
    simp only [List.length_drop, List.length_append, List.length_cons] at hlen
    rw [show (rOf log (es, i, last)).at_ = (i : Int) from rfl, show (rOf log (es, i, last)).s_ = log from rfl, show (rOf log (es, i, last)).stamp_ = last from rfl, show (rOf log (es, i, last)).list_ = es from rfl, hw, hab, cut_yes hn]
    have e2 : decide ((log.length : Int) ≤ ((i + a.length : Nat) : Int)) = false := by simp; omega
    simp only [Option.bind_some, e2, Bool.false_eq_true, if_false]
    rw [cutOk_of (by omega) (by omega) (by omega), ck_true, cut_at hab, l01Split_is 32 (by omega)]
    simp only [Option.bind_some]
    unfold lineP
    by_cases hps : (splitOn 32 a).length = 4
    · obtain ⟨p0, p1, p2, p3, hsp⟩ := four_parts hps
      have ha := split_four hsp
      have hla := congrArg List.length ha
      simp only [List.length_append, List.length_cons] at hla
      rw [hsp]
      have q0 : [p0, p1, p2, p3].getD 0 default = p0 := rfl
      have q1 : [p0, p1, p2, p3].getD 1 default = p1 := rfl
      have q2 : [p0, p1, p2, p3].getD 2 default = p2 := rfl
      have k0 : ixOk 0 [p0, p1, p2, p3].length = true := rfl
      have k1 : ixOk 1 [p0, p1, p2, p3].length = true := rfl
      have k2 : ixOk 2 [p0, p1, p2, p3].length = true := rfl
      have k4 : ((([p0, p1, p2, p3].length : Nat) : Int) == 4) = true := rfl
      simp only [k4, Bool.not_true, Bool.false_eq_true, if_false, k0, k1, k2, q0, q1, q2, ck_true]
      rw [l01Number_is (s := p0) (by omega), l01Number_is (s := p2) (by omega)]
      simp only [Option.bind_some, l27Ok_is, hday, Option.isSome_some, Bool.or_true, ck_true, Option.getD_some]
      unfold psP partsP
      simp only
      generalize hd : (rdDec p0).1 = d
      generalize hv : (rdDec p2).1 = v
      by_cases hc : ((((rdDec p0).2 && (rdDec p2).2) && oneN ⟨d, p1, v⟩) && decide (dayOf es ≤ d)) = true
      · have hc2 : ((((!(rdDec p0).2) || (!(rdDec p2).2)) || (!(oneN ⟨d, p1, v⟩))) || decide (d < dayOf es)) = false := by
          simp only [Bool.and_eq_true, decide_eq_true_eq] at hc
          obtain ⟨⟨⟨c1, c2⟩, c3⟩, c4⟩ := hc
          simp only [c1, c2, c3, Bool.not_true, Bool.or_self, Bool.false_or, decide_eq_false_iff_not]
          omega
        rw [hc, hc2]
        simp only [Bool.and_eq_true, decide_eq_true_eq] at hc
        obtain ⟨⟨⟨c1, c2⟩, c3⟩, c4⟩ := hc
        obtain ⟨s1, s2, s3, s4⟩ := stampF_is c3 h0 h1
        have e0 := (rdDec_itoa c1).1
        have e2 := (rdDec_itoa c2).1
        rw [hd] at e0
        rw [hv] at e2
        simp only [Bool.false_eq_true, if_false, l27Words_is c3, Option.bind_some, s1, l27Line_is c3 s3 s4]
        have w : IntKind.i64.wrap (((i + a.length : Nat) : Int) + 1) = ((i + (a ++ [10]).length : Nat) : Int) := by
          rw [wrap_nat1 (by omega)]; simp [Nat.add_assoc]
        rw [w, cutOk_of (by omega) (by omega) (by simp; omega), ck_true, cut_at (a := a ++ [10]) (r := b) (by rw [hab]; simp)]
        have heq : ((((wordsN ⟨d, p1, v⟩ ++ [32]) ++ Lib.itoa (stampF last ⟨d, p1, v⟩)) ++ [10]) == a ++ [10]) = decide (Lib.itoa (stampF last ⟨d, p1, v⟩) = p3) := by
          rw [Bool.eq_iff_iff, beq_iff_eq, decide_eq_true_eq, List.append_cancel_right_eq, ha]
          simp only [wordsN, e0, e2, List.append_assoc, List.singleton_append, List.cons_append, List.nil_append]
          constructor
          · intro h
            have h := List.append_cancel_left h
            have h := List.append_cancel_left (List.cons.inj h).2
            have h := List.append_cancel_left (List.cons.inj h).2
            exact (List.cons.inj h).2
          · intro h; rw [h]
        rw [heq]
        by_cases hp : Lib.itoa (stampF last ⟨d, p1, v⟩) = p3
        · simp only [hp, decide_true, Bool.not_true, Bool.false_eq_true, if_false, Bool.and_self, if_true, Option.map_some, Option.bind_some]
          rw [appOk_of (by simp; omega), ck_true]
          rw [wrap_nat1 (show i + a.length < 9223372036854775807 by omega)]
          rfl
        · simp only [hp, decide_false, Bool.not_false, if_true, Bool.and_false, Bool.false_eq_true, if_false, Option.map_none, Option.bind_some]
      · have hc1 := Bool.eq_false_iff.2 hc
        have hc2 : ((((!(rdDec p0).2) || (!(rdDec p2).2)) || (!(oneN ⟨d, p1, v⟩))) || decide (d < dayOf es)) = true := by
          have e : decide (d < dayOf es) = !decide (dayOf es ≤ d) := by
            by_cases c : dayOf es ≤ d
            · simp [c, Int.not_lt.2 c]
            · simp [c, Int.not_le.1 c]
          rw [e, ← Bool.not_and, ← Bool.not_and, ← Bool.not_and, hc1]; rfl
        rw [hc1, hc2]
        simp only [if_true, Bool.false_and, Bool.false_eq_true, if_false, Option.map_none, Option.bind_some]
    · have k4 : (((((splitOn 32 a).length : Nat) : Int)) == 4) = false := by rw [beq_eq_false_iff_ne]; omega
      simp only [k4, Bool.not_false, if_true, psP_ne hps, Option.map_none, Option.bind_some]

/-- The reference's reading. -/
theorem l27Read_is {log : List UInt8} (hl : log.length ≤ 1048576) : spec_l27Read log = some (rOf log (logP log)) := by
  unfold spec_l27Read
  exact read_loop (step := spec_l27Read_l1) (log := log) (fun s => rOf log s) (fun s => rOf log s) (fun s hs => by
    show (spec_l27R_line (rOf log s)).bind _ = _
    rw [line_is hs hl]
    cases stepP log s.2.1 s.2.2 (dayOf s.1) with
    | none => rfl
    | some q => rfl) (log.length + 1) ([], 0, 0) (start_inv log) (by show log.length < log.length + 1 + 0; omega)

/-! ### The program -/

theorem bool_aux {a b c o t z : Bool} (h : (c && z) = false) : (((((a && b) && c) && o) && t) && z) = false := by
  revert h; cases a <;> cases b <;> cases c <;> cases o <;> cases t <;> cases z <;> simp

theorem readEntry_is {line : List UInt8} (hl : line.length ≤ 1048576) :
    ∃ e m ok, impl_readEntry line = some (e, m, ok) ∧ ∀ last day : Int, 0 ≤ last → last ≤ 65520 →
      ((ok && decide (day ≤ e.Day)) = true → oneN e = true) ∧
      lineP last day line = if (ok && decide (day ≤ e.Day)) && decide (m = stampF last e) then some (e, m) else none := by
  unfold impl_readEntry lineP
  rw [hSplit_one (by omega)]
  simp only [Option.bind_some]
  by_cases hps : (splitOn 32 line).length = 4
  · obtain ⟨p0, p1, p2, p3, hsp⟩ := four_parts hps
    have ha := split_four hsp
    have hla := congrArg List.length ha
    simp only [List.length_append, List.length_cons] at hla
    rw [hsp]
    have q0 : [p0, p1, p2, p3].getD 0 default = p0 := rfl
    have q1 : [p0, p1, p2, p3].getD 1 default = p1 := rfl
    have q2 : [p0, p1, p2, p3].getD 2 default = p2 := rfl
    have q3 : [p0, p1, p2, p3].getD 3 default = p3 := rfl
    have k0 : ixOk 0 [p0, p1, p2, p3].length = true := rfl
    have k1 : ixOk 1 [p0, p1, p2, p3].length = true := rfl
    have k2 : ixOk 2 [p0, p1, p2, p3].length = true := rfl
    have k3 : ixOk 3 [p0, p1, p2, p3].length = true := rfl
    have k4 : ((([p0, p1, p2, p3].length : Nat) : Int) == 4) = true := rfl
    simp only [k4, Bool.not_true, Bool.false_eq_true, if_false, k0, k1, k2, k3, q0, q1, q2, q3, ck_true]
    rw [hRdDec_eq (s := p0) (by omega), hRdDec_eq (s := p2) (by omega), hRdDec_eq (s := p3) (by omega)]
    simp only [Option.bind_some, ValidEntry_is, Option.isSome_some, Bool.or_true, ck_true, Option.getD_some]
    refine ⟨_, _, _, rfl, fun last day h0 h1 => ?_⟩
    unfold psP partsP
    simp only
    generalize hd : (rdDec p0).1 = d
    generalize hv : (rdDec p2).1 = v
    refine ⟨fun h => ?_, ?_⟩
    · simp only [Bool.and_eq_true] at h
      exact h.1.2
    · by_cases hone : oneN ⟨d, p1, v⟩ = true
      · obtain ⟨_, _, s3, s4⟩ := stampF_is hone h0 h1
        by_cases hp : Lib.itoa (stampF last ⟨d, p1, v⟩) = p3
        · have hr : rdDec p3 = (stampF last ⟨d, p1, v⟩, true) := by rw [← hp]; exact rdDec_small s3 s4
          simp only [hr, hp, decide_true, Bool.and_true]
        · have hn : ((rdDec p3).2 && decide ((rdDec p3).1 = stampF last ⟨d, p1, v⟩)) = false := by
            cases c : (rdDec p3).2 with
            | false => rfl
            | true =>
              rw [Bool.true_and, decide_eq_false_iff_not]
              intro e
              exact hp (by rw [← e]; exact (rdDec_itoa c).1)
          have hn2 : ((((((rdDec p0).2 && (rdDec p2).2) && (rdDec p3).2) && oneN ⟨d, p1, v⟩) && decide (day ≤ d)) && decide ((rdDec p3).1 = stampF last ⟨d, p1, v⟩)) = false := bool_aux hn
          simp only [hp, decide_false, Bool.and_false, Bool.false_eq_true, if_false]
          rw [hn2]
          rfl
      · have hone := Bool.eq_false_iff.2 hone
        simp only [hone, Bool.and_false, Bool.false_and, Bool.false_eq_true, if_false]
  · have k4 : (((((splitOn 32 line).length : Nat) : Int)) == 4) = false := by rw [beq_eq_false_iff_ne]; omega
    simp only [k4, Bool.not_false, if_true, psP_ne hps]
    refine ⟨_, _, _, rfl, fun last day _ _ => ⟨fun h => ?_, ?_⟩⟩
    · simp at h
    · simp

theorem readLog_step {log : List UInt8} {s : List Entry × Nat × Int} (h : LInv log s) (hl : log.length ≤ 1048576) :
    impl_readLog_l1 log (s.1, (s.2.1 : Int), s.2.2, dayOf s.1) = match stepP log s.2.1 s.2.2 (dayOf s.1) with
      | none => some (.inr (s.1, (s.2.1 : Int), s.2.2))
      | some q => some (.inl (s.1 ++ [q.2.1], (q.1 : Int), q.2.2, dayOf (s.1 ++ [q.2.1]))) := by
  obtain ⟨es, i, last⟩ := s
  have hi : i ≤ log.length := h.at_
  have hfew : es.length ≤ i := h.few
  have h0 : 0 ≤ last := h.lo
  have h1 : last ≤ 65520 := h.hi
  unfold impl_readLog_l1 stepP
  simp only
  rw [cutOk_of (by omega) (by omega) (by omega), ck_true, cut_rest, hCut_one (by simp; omega)]
  simp only [Option.bind_some]
  rcases idx_cases 10 (log.drop i) with ⟨_, hn⟩ | ⟨a, b, hab, hn, _⟩
  · rw [cut_no hn]
    obtain ⟨e, m, ok, he, _⟩ := readEntry_is (line := log.drop i) (by simp; omega)
    simp only [he, Option.bind_some, Bool.not_false, Bool.true_or, Bool.not_true, Bool.false_or, ck_true, if_true]
  · have hlen := congrArg List.length hab
    simp only [List.length_drop, List.length_append, List.length_cons] at hlen
    rw [hab, cut_yes hn]
    obtain ⟨e, m, ok, he, hP⟩ := readEntry_is (line := a) (by omega)
    obtain ⟨hone, hP⟩ := hP last (dayOf es) h0 h1
    simp only [he, Option.bind_some, hP, Bool.not_true, Bool.false_or]
    by_cases hc : (ok && decide (dayOf es ≤ e.Day)) = true
    · have hone := hone hc
      obtain ⟨s1, s2, s3, s4⟩ := stampF_is hone h0 h1
      have hc2 : ((!ok) || decide (e.Day < dayOf es)) = false := by
        simp only [Bool.and_eq_true, decide_eq_true_eq] at hc
        simp only [hc.1, Bool.not_true, Bool.false_or, decide_eq_false_iff_not]
        omega
      simp only [hc2, hc, s2, Option.isSome_some, Bool.or_true, ck_true, Option.getD_some, Bool.false_or, Bool.true_and]
      by_cases hm : m = stampF last e
      · have e1 : (m == stampF last e) = true := by rw [hm]; exact beq_self_eq_true _
        simp only [e1, hm, decide_true, Bool.not_true, Bool.false_eq_true, if_false, if_true, Option.map_some]
        rw [appOk_of (by simp; omega), ck_true, dayOf_snoc, wrap_nat1 (show a.length < 9223372036854775807 by omega), wrap_i64 (by omega) (by omega)]
        simp [Nat.add_assoc]
      · have e1 : (m == stampF last e) = false := beq_eq_false_iff_ne.2 hm
        simp only [e1, hm, decide_false, Bool.not_false, if_true, Bool.false_eq_true, if_false, Option.map_none]
    · have hc := Bool.eq_false_iff.2 hc
      have hc2 : ((!ok) || decide (e.Day < dayOf es)) = true := by
        have e2 : decide (e.Day < dayOf es) = !decide (dayOf es ≤ e.Day) := by
          by_cases c : dayOf es ≤ e.Day
          · simp [c, Int.not_lt.2 c]
          · simp [c, Int.not_le.1 c]
        rw [e2, ← Bool.not_and, hc]; rfl
      simp only [hc2, hc, Bool.not_true, Bool.false_or, ck_true, Bool.true_or, if_true, Bool.false_and, Bool.false_eq_true, if_false, Option.map_none]
      rfl

/-- The program's reading. -/
theorem readLog_is {log : List UInt8} (hl : log.length ≤ 1048576) : impl_readLog log = some ((logP log).1, ((logP log).2.1 : Int), (logP log).2.2) := by
  unfold impl_readLog
  have := read_loop (step := impl_readLog_l1 log) (log := log) (fun s => (s.1, (s.2.1 : Int), s.2.2, dayOf s.1)) (fun s => (s.1, (s.2.1 : Int), s.2.2)) (fun s hs => readLog_step hs hl) (log.length + 1) ([], 0, 0) (start_inv log) (by show log.length < log.length + 1 + 0; omega)
  rw [show whileE (impl_readLog_l1 log) (([] : List Entry), 0, 0, 0) = _ from this]
  rfl

end Go.Proofs.YtlcabohpeopdcaaGreatDoor

/- What typed forms say: a text that must be a log, and its code. No condition. -/
namespace Go.Proofs.YtlcabohpeopdcaaGreatDoor
open Go Go.RowKit
set_option linter.unusedSimpArgs false
set_option linter.unusedVariables false

noncomputable def codeP (log : List UInt8) : Int := if 4000 < log.length then 5 else if (logP log).2.1 = log.length then 0 else 8

theorem code_ok {log : List UInt8} (h : codeP log = 0) : log.length ≤ 4000 ∧ (logP log).2.1 = log.length ∧ (logP log).1.length ≤ 4000 := by
  unfold codeP at h
  split at h
  · exact absurd h (by decide)
  · split at h
    · rename_i h1 h2
      have := (logP_inv log).few
      exact ⟨by omega, h2, by omega⟩
    · exact absurd h (by decide)

theorem l27Code_is {log : List UInt8} (hl : log.length ≤ 1048576) : ∃ r, spec_l27Code log = some (r, codeP log) ∧ (codeP log = 0 → r = rOf log (logP log)) := by
  unfold spec_l27Code codeP
  by_cases h : 4000 < log.length
  · have e : decide ((4000 : Int) < (log.length : Int)) = true := decide_eq_true (by omega)
    simp only [e, if_true, if_pos h]
    exact ⟨_, rfl, fun c => absurd c (by decide)⟩
  · have e : decide ((4000 : Int) < (log.length : Int)) = false := decide_eq_false (by omega)
    simp only [e, Bool.false_eq_true, if_false, if_neg h, l27Read_is hl, Option.bind_some]
    by_cases h2 : (logP log).2.1 = log.length
    · have e2 : ((rOf log (logP log)).at_ == (log.length : Int)) = true := by rw [beq_iff_eq]; show (((logP log).2.1 : Nat) : Int) = _; rw [h2]
      simp only [e2, Bool.not_true, Bool.false_eq_true, if_false, if_pos h2]
      exact ⟨_, rfl, fun _ => rfl⟩
    · have e2 : ((rOf log (logP log)).at_ == (log.length : Int)) = false := by rw [beq_eq_false_iff_ne]; show (((logP log).2.1 : Nat) : Int) ≠ _; omega
      simp only [e2, Bool.not_false, if_true, if_neg h2]
      exact ⟨_, rfl, fun c => absurd c (by decide)⟩

theorem wholeLog_is {log : List UInt8} (hl : log.length ≤ 1048576) : ∃ es last, impl_wholeLog log = some (es, last, codeP log) ∧ (codeP log = 0 → es = (logP log).1 ∧ last = (logP log).2.2) ∧ (codeP log ≠ 0 → es = []) := by
  unfold impl_wholeLog codeP
  have hi := (logP_inv log).at_
  by_cases h : 4000 < log.length
  · have e : decide ((4000 : Int) < (log.length : Int)) = true := decide_eq_true (by omega)
    simp only [e, if_true, if_pos h]
    exact ⟨_, _, rfl, fun c => absurd c (by decide), fun _ => rfl⟩
  · have e : decide ((4000 : Int) < (log.length : Int)) = false := decide_eq_false (by omega)
    simp only [e, Bool.false_eq_true, if_false, if_neg h, readLog_is hl, Option.bind_some]
    by_cases h2 : (logP log).2.1 = log.length
    · have e2 : decide (((logP log).2.1 : Int) < (log.length : Int)) = false := decide_eq_false (by omega)
      simp only [e2, Bool.false_eq_true, if_false, if_pos h2]
      exact ⟨_, _, rfl, fun _ => ⟨rfl, rfl⟩, fun c => absurd rfl c⟩
    · have e2 : decide (((logP log).2.1 : Int) < (log.length : Int)) = true := decide_eq_true (by omega)
      simp only [e2, if_true, if_neg h2]
      exact ⟨_, _, rfl, fun c => absurd c (by decide), fun _ => rfl⟩

theorem EntriesOf_is {log : List UInt8} (hl : log.length ≤ 1048576) : ∃ es, impl_EntriesOf log = some (es, codeP log) ∧ (codeP log = 0 → es = (logP log).1) ∧ (codeP log ≠ 0 → es = []) := by
  unfold impl_EntriesOf
  obtain ⟨es, last, h1, h2, h3⟩ := wholeLog_is hl
  rw [h1]
  exact ⟨es, rfl, fun c => (h2 c).1, h3⟩

end Go.Proofs.YtlcabohpeopdcaaGreatDoor

/- What typed forms say: the log of a list of entries is read as that list. No condition. -/
namespace Go.Proofs.YtlcabohpeopdcaaGreatDoor
open Go Go.RowKit
set_option linter.unusedSimpArgs false
set_option linter.unusedVariables false

theorem dig_no {c : UInt8} (h : dig c = true) : c ≠ 32 ∧ c ≠ 10 := by
  have := dig_iff.1 h
  constructor <;> (rintro rfl; simp at this)

theorem itoa_no (n : Int) : ∀ c, c ∈ Lib.itoa n → c ≠ 32 ∧ c ≠ 10 := by
  intro c hc
  unfold Lib.itoa at hc
  split at hc
  · rcases List.mem_cons.1 hc with rfl | hc
    · decide
    · exact dig_no (List.all_eq_true.1 (dec_all _) c hc)
  · exact dig_no (List.all_eq_true.1 (dec_all _) c hc)

theorem name_no {s : List UInt8} (h : nameB s = true) : ∀ c, c ∈ s → c ≠ 32 ∧ c ≠ 10 := by
  intro c hc
  unfold nameB at h
  simp only [Bool.and_eq_true] at h
  obtain ⟨i, hi, rfl⟩ := List.getElem_of_mem hc
  have := all_range.1 h.2.2 i hi
  rw [getD_lt hi] at this
  unfold okc at this
  constructor
  · intro e; rw [e] at this; revert this; cases (i == 0) <;> decide
  · intro e; rw [e] at this; revert this; cases (i == 0) <;> decide

theorem oneN_name {e : Entry} (h : oneN e = true) : nameB e.What = true := by
  unfold oneN at h
  simp only [Bool.and_eq_true] at h
  exact h.1.2

/-- A line, without its end. -/
theorem lineT_split {e : Entry} (h : oneN e = true) (st : Int) : splitOn 32 (lineT st e) = [Lib.itoa e.Day, e.What, Lib.itoa e.Value, Lib.itoa st] := by
  have e1 : lineT st e = joinOn 32 [Lib.itoa e.Day, e.What, Lib.itoa e.Value, Lib.itoa st] := by
    rw [join_four]
    simp [lineT, wordsN]
  rw [e1]
  refine split_join 32 _ (by simp) fun p hp => ?_
  simp only [List.mem_cons, List.not_mem_nil, or_false] at hp
  rcases hp with rfl | rfl | rfl | rfl
  · exact fun c => (itoa_no _ _ c).1 rfl
  · exact fun c => (name_no (oneN_name h) _ c).1 rfl
  · exact fun c => (itoa_no _ _ c).1 rfl
  · exact fun c => (itoa_no _ _ c).1 rfl

theorem lineT_no {e : Entry} (h : oneN e = true) (st : Int) : 10 ∉ lineT st e := by
  intro hc
  simp only [lineT, wordsN, List.mem_append, List.mem_singleton] at hc
  rcases hc with (((((hc | hc) | hc) | hc) | hc) | hc) | hc
  · exact (itoa_no _ _ hc).2 rfl
  · exact absurd hc (by decide)
  · exact (name_no (oneN_name h) _ hc).2 rfl
  · exact absurd hc (by decide)
  · exact (itoa_no _ _ hc).2 rfl
  · exact absurd hc (by decide)
  · exact (itoa_no _ _ hc).2 rfl

theorem lineP_own {e : Entry} (h : oneN e = true) {last day : Int} (hd : day ≤ e.Day) : lineP last day (lineT (stampF last e) e) = some (e, stampF last e) := by
  have hin := oneN_in h
  unfold lineP
  rw [lineT_split h]
  unfold psP partsP
  dsimp only
  rw [rdDec_any (n := e.Day) (by omega) (by omega), rdDec_any (n := e.Value) (by omega) (by omega)]
  obtain ⟨d, s, v⟩ := e
  simp only [h, Bool.and_self, decide_true, Bool.and_true, Bool.true_and, hd, if_true]

/-- The log of entries, behind a stamp. -/
def sortedP : Int → List Entry → Prop
  | _, [] => True
  | d, e :: es => d ≤ e.Day ∧ sortedP e.Day es

noncomputable def lastP : Int → List Entry → Int
  | last, [] => last
  | last, e :: es => lastP (stampF last e) es

theorem readP_make {log : List UInt8} : ∀ (es done : List Entry) (i : Nat) (last : Int) (f : Nat), log.drop i = makeP last es → i ≤ log.length → sortedP (dayOf done) es → (∀ e, e ∈ es → oneN e = true) → 0 ≤ last → last ≤ 65520 → es.length < f →
    readP log f (done, i, last) = (done ++ es, log.length, lastP last es)
  | [], done, i, last, f, hd, hi, _, _, _, _, hf => by
    obtain ⟨f', rfl⟩ : ∃ f', f = f' + 1 := ⟨f - 1, by simp at hf; omega⟩
    have hd : log.drop i = [] := hd
    have hlen : i = log.length := by have := congrArg List.length hd; simp at this; omega
    unfold readP stepP
    simp only [hd]
    rw [cut_no (by simp)]
    simp [hlen, lastP]
  | e :: es, done, i, last, f, hd, hi, hs, ho, h0, h1, hf => by
    obtain ⟨f', rfl⟩ : ∃ f', f = f' + 1 := ⟨f - 1, by simp at hf; omega⟩
    have hone := ho e (by simp)
    obtain ⟨_, _, s0, s1⟩ := stampF_is hone h0 h1
    have hd : log.drop i = lineT (stampF last e) e ++ 10 :: makeP (stampF last e) es := hd
    have hlen := congrArg List.length hd
    simp only [List.length_drop, List.length_append, List.length_cons] at hlen
    have hstep : stepP log i last (dayOf done) = some (i + (lineT (stampF last e) e).length + 1, e, stampF last e) := by
      unfold stepP
      rw [hd, cut_yes (lineT_no hone _)]
      simp only [lineP_own hone hs.1, Option.map_some]
    have hdrop : log.drop (i + (lineT (stampF last e) e).length + 1) = makeP (stampF last e) es := by
      rw [Nat.add_assoc, ← List.drop_drop, hd, ← List.drop_drop, List.drop_left]
      rfl
    have hm := readP_make es (done ++ [e]) (i + (lineT (stampF last e) e).length + 1) (stampF last e) f' hdrop (by omega) (by rw [dayOf_snoc]; exact hs.2) (fun x hx => ho x (by simp [hx])) s0 s1 (by simp at hf; omega)
    unfold readP
    simp only [hstep]
    rw [hm]
    simp [lastP]

/-- The log of valid entries in order is read as these entries. -/
theorem logP_make {es : List Entry} (hs : sortedP 0 es) (ho : ∀ e, e ∈ es → oneN e = true) : (logP (makeP 0 es)).1 = es ∧ (logP (makeP 0 es)).2.1 = (makeP 0 es).length ∧ (logP (makeP 0 es)).2.2 = lastP 0 es := by
  have hm := readP_make (log := makeP 0 es) es [] 0 0 ((makeP 0 es).length + 1) rfl (Nat.zero_le _) hs ho (by omega) (by omega) (by have := makeP_len es 0 ho (by omega) (by omega); omega)
  unfold logP
  rw [hm]
  exact ⟨rfl, rfl, rfl⟩

end Go.Proofs.YtlcabohpeopdcaaGreatDoor

/- What typed forms say: logs that are cut off, logs that grow. No condition. -/
namespace Go.Proofs.YtlcabohpeopdcaaGreatDoor
open Go Go.RowKit
set_option linter.unusedSimpArgs false
set_option linter.unusedVariables false

/-! ### A log that is cut off -/

theorem stepP_cases {log : List UInt8} {i : Nat} {last day : Int} {q : Nat × Entry × Int} (h : stepP log i last day = some q) :
    ∃ a b, log.drop i = a ++ 10 :: b ∧ 10 ∉ a ∧ q.1 = i + a.length + 1 ∧ lineP last day a = some (q.2.1, q.2.2) := by
  unfold stepP at h
  rcases idx_cases 10 (log.drop i) with ⟨_, hn⟩ | ⟨a, b, hab, hn, _⟩
  · rw [cut_no hn] at h; cases h
  · rw [hab, cut_yes hn] at h
    have h : Option.map (fun q : Entry × Int => (i + a.length + 1, q.1, q.2)) (lineP last day a) = some q := h
    cases hl : lineP last day a with
    | none => rw [hl] at h; cases h
    | some p => rw [hl] at h; cases h; exact ⟨a, b, hab, hn, rfl, hl⟩

theorem stepP_of {log a b : List UInt8} {i : Nat} {last day : Int} {p : Entry × Int} (h : log.drop i = a ++ 10 :: b) (hn : 10 ∉ a) (hl : lineP last day a = some p) : stepP log i last day = some (i + a.length + 1, p.1, p.2) := by
  unfold stepP
  rw [h, cut_yes hn]
  simp only [hl, Option.map_some]

/-- A step in what is cut off is a step in the whole. -/
theorem stepP_up {log : List UInt8} {n i : Nat} {last day : Int} {q : Nat × Entry × Int} (h : stepP (log.take n) i last day = some q) : stepP log i last day = some q := by
  obtain ⟨a, b, h1, h2, h3, h4⟩ := stepP_cases h
  have e : log.drop i = a ++ 10 :: (b ++ (log.drop i).drop (n - i)) := by
    have h5 : (log.drop i).take (n - i) = a ++ 10 :: b := by rw [← List.drop_take]; exact h1
    refine (List.take_append_drop (n - i) (log.drop i)).symm.trans ?_
    rw [h5]; simp only [List.append_assoc, List.cons_append]
  rw [stepP_of e h2 h4, ← h3]

/-- A step in the whole that ends ahead of the cut is a step in what is left. -/
theorem stepP_down {log : List UInt8} {n i : Nat} {last day : Int} {q : Nat × Entry × Int} (h : stepP log i last day = some q) (hq : q.1 ≤ n) : stepP (log.take n) i last day = some q := by
  obtain ⟨a, b, h1, h2, h3, h4⟩ := stepP_cases h
  have e : (log.take n).drop i = a ++ 10 :: (b.take (n - i - a.length - 1)) := by
    rw [List.drop_take, h1, List.take_append, List.take_of_length_le (by omega), List.take_cons (by omega)]
    
  rw [stepP_of e h2 h4, ← h3]

/-- The fuel does not matter. -/
theorem readP_fuel {log : List UInt8} : ∀ (f f' : Nat) (s : List Entry × Nat × Int), LInv log s → log.length < f + s.2.1 → log.length < f' + s.2.1 → readP log f s = readP log f' s
  | 0, _, s, h, hf, _ => by have := h.at_; omega
  | _, 0, s, h, _, hf => by have := h.at_; omega
  | f + 1, f' + 1, s, h, hf, hf' => by
    unfold readP
    cases hq : stepP log s.2.1 s.2.2 (dayOf s.1) with
    | none => rfl
    | some q =>
      obtain ⟨g1, _⟩ := stepP_in (i' := q.1) (e := q.2.1) (m := q.2.2) hq h.lo h.hi h.at_
      exact readP_fuel f f' _ (h.step hq) (by show log.length < f + q.1; omega) (by show log.length < f' + q.1; omega)

theorem readP_more {log : List UInt8} : ∀ (f : Nat) (s : List Entry × Nat × Int), LInv log s → s.1 <+: (readP log f s).1 ∧ s.2.1 ≤ (readP log f s).2.1
  | 0, s, h => ⟨List.prefix_refl _, Nat.le_refl _⟩
  | f + 1, s, h => by
    unfold readP
    cases hq : stepP log s.2.1 s.2.2 (dayOf s.1) with
    | none => exact ⟨List.prefix_refl _, Nat.le_refl _⟩
    | some q =>
      obtain ⟨g1, _⟩ := stepP_in (i' := q.1) (e := q.2.1) (m := q.2.2) hq h.lo h.hi h.at_
      obtain ⟨i1, i2⟩ := readP_more f _ (h.step hq)
      show s.1 <+: (readP log f (s.1 ++ [q.2.1], q.1, q.2.2)).1 ∧ s.2.1 ≤ (readP log f (s.1 ++ [q.2.1], q.1, q.2.2)).2.1
      exact ⟨(List.prefix_append _ _).trans i1, by have : q.1 ≤ _ := i2; omega⟩

theorem LInv.whole {log : List UInt8} {n : Nat} {s : List Entry × Nat × Int} (h : LInv (log.take n) s) : LInv log s :=
  ⟨by have := h.at_; simp at this; omega, h.few, h.lo, h.hi, h.ok⟩

/-- What is read of a log that is cut off is the beginning of what is read of the whole. -/
theorem readP_cut {log : List UInt8} {n : Nat} : ∀ (f : Nat) (s : List Entry × Nat × Int), LInv (log.take n) s → (readP (log.take n) f s).1 <+: (readP log f s).1
  | 0, s, h => List.prefix_refl _
  | f + 1, s, h => by
    cases hq : stepP (log.take n) s.2.1 s.2.2 (dayOf s.1) with
    | none =>
      have e : readP (log.take n) (f + 1) s = s := by unfold readP; rw [hq]
      rw [e]
      exact (readP_more (f + 1) s h.whole).1
    | some q =>
      have hq' := stepP_up hq
      have e1 : readP (log.take n) (f + 1) s = readP (log.take n) f (s.1 ++ [q.2.1], q.1, q.2.2) := by rw [readP, hq]
      have e2 : readP log (f + 1) s = readP log f (s.1 ++ [q.2.1], q.1, q.2.2) := by rw [readP, hq']
      rw [e1, e2]
      exact readP_cut f _ (h.step hq)

theorem logP_cut (log : List UInt8) (n : Nat) : (logP (log.take n)).1 <+: (logP log).1 := by
  have h := readP_cut (log := log) (n := n) (log.length + 1) ([], 0, 0) (start_inv _)
  unfold logP
  rw [readP_fuel (log := log.take n) ((log.take n).length + 1) (log.length + 1) ([], 0, 0) (start_inv _) (by show _ < _ + 0; omega) (by show _ < _ + 0; rw [List.length_take]; omega)]
  exact h

/-- What is read is read again of itself. -/
theorem readP_self {log : List UInt8} {n : Nat} (hn : n ≤ log.length) : ∀ (f : Nat) (s : List Entry × Nat × Int), LInv (log.take n) s → (readP log f s).2.1 = n → log.length < f + s.2.1 → readP (log.take n) f s = readP log f s
  | 0, s, h, _, hf => by have := h.at_; simp at this; omega
  | f + 1, s, h, he, hf => by
    have hw := h.whole
    cases hq : stepP log s.2.1 s.2.2 (dayOf s.1) with
    | none =>
      have e : readP log (f + 1) s = s := by unfold readP; rw [hq]
      rw [e] at he ⊢
      have e2 : stepP (log.take n) s.2.1 s.2.2 (dayOf s.1) = none := by
        cases hq2 : stepP (log.take n) s.2.1 s.2.2 (dayOf s.1) with
        | none => rfl
        | some q => rw [stepP_up hq2] at hq; cases hq
      unfold readP; rw [e2]
    | some q =>
      have e : readP log (f + 1) s = readP log f (s.1 ++ [q.2.1], q.1, q.2.2) := by rw [readP, hq]
      have hst := hw.step hq
      rw [e] at he ⊢
      have hle : q.1 ≤ n := by have := (readP_more f _ hst).2; rw [he] at this; exact this
      have hq' := stepP_down hq hle
      have e' : readP (log.take n) (f + 1) s = readP (log.take n) f (s.1 ++ [q.2.1], q.1, q.2.2) := by rw [readP, hq']
      obtain ⟨g1, _⟩ := stepP_in (i' := q.1) (e := q.2.1) (m := q.2.2) hq hw.lo hw.hi hw.at_
      rw [e']
      exact readP_self hn f _ (h.step hq') he (by show log.length < f + q.1; omega)

theorem logP_self (log : List UInt8) : logP (log.take (logP log).2.1) = logP log := by
  have hn := (logP_inv log).at_
  have h := readP_self (log := log) hn (log.length + 1) ([], 0, 0) (start_inv _) rfl (by omega)
  rw [logP, readP_fuel (log := log.take (logP log).2.1) ((log.take (logP log).2.1).length + 1) (log.length + 1) ([], 0, 0) (start_inv _) (by show _ < _ + 0; omega) (by show _ < _ + 0; rw [List.length_take]; omega), h]
  rfl

theorem code_self {log : List UInt8} (hl : log.length ≤ 4000) : codeP (log.take (logP log).2.1) = 0 := by
  have hn := (logP_inv log).at_
  unfold codeP
  rw [if_neg (by simp; omega), logP_self, if_pos (by simp; omega)]

/-! ### A log that grows -/

theorem last_is' {es : List Entry} {d : Int} (h0 : 0 ≤ d) (hl : es.length ≤ 1048576) :
    ((decide (0 < (es.length : Int))) && (decide (d < ((es.getD (IntKind.i64.wrap ((es.length : Int) - 1)).toNat default).Day)))) = decide (d < dayOf es) := by
  unfold dayOf
  by_cases h : es.length = 0
  · have e : decide ((0 : Int) < (es.length : Int)) = false := decide_eq_false (by omega)
    rw [e, if_pos h, Bool.false_and]
    exact (decide_eq_false (by omega)).symm
  · have e : decide ((0 : Int) < (es.length : Int)) = true := decide_eq_true (by omega)
    have w : IntKind.i64.wrap ((es.length : Int) - 1) = ((es.length - 1 : Nat) : Int) := by rw [wrap_i64 (by omega) (by omega)]; omega
    rw [e, if_neg h, Bool.true_and, w, Int.toNat_natCast]

theorem makeP_snoc : ∀ (es : List Entry) (last : Int) (e : Entry), makeP last (es ++ [e]) = makeP last es ++ (((wordsN e ++ [32]) ++ Lib.itoa (stampF (lastP last es) e)) ++ [10])
  | [], last, e => by simp [makeP, lineT, lastP]
  | x :: es, last, e => by
    have ih := makeP_snoc es (stampF last x) e
    simp only [List.cons_append, makeP, ih, lastP]
    simp

theorem makeP_append : ∀ (es fs : List Entry) (last : Int), makeP last (es ++ fs) = makeP last es ++ makeP (lastP last es) fs
  | [], fs, last => rfl
  | x :: es, fs, last => by
    simp only [List.cons_append, makeP, lastP, makeP_append es fs]
    simp

theorem AddEntry_next {es : List Entry} {e : Entry} (hs : sortedP 0 es) (ho : ∀ x, x ∈ es → oneN x = true) (hone : oneN e = true) (hd : dayOf es ≤ e.Day) (hl : (makeP 0 (es ++ [e])).length ≤ 4000) :
    impl_AddEntry (makeP 0 es) e = some (makeP 0 (es ++ [e]), 0) := by
  obtain ⟨p1, p2, p3⟩ := logP_make hs ho
  have hlen : (makeP 0 es).length ≤ 4000 := by rw [makeP_snoc, List.length_append] at hl; omega
  have hcode : codeP (makeP 0 es) = 0 := by unfold codeP; rw [if_neg (by omega), if_pos p2]
  have hi := logP_inv (makeP 0 es)
  rw [makeP_snoc] at hl ⊢
  unfold impl_AddEntry
  obtain ⟨es', last, e2, h1, h2⟩ := wholeLog_is (log := makeP 0 es) (by omega)
  obtain ⟨rfl, rfl⟩ := h1 hcode
  have hin := oneN_in hone
  obtain ⟨s1, s2, s3, s4⟩ := stampF_is hone hi.lo hi.hi
  have lw := words_len hone
  have ls := itoa_len (n := stampF (logP (makeP 0 es)).2.2 e) ⟨by omega, by omega⟩
  obtain ⟨b1, b2, b3⟩ := code_ok hcode
  have k : (!(decide (0 < ((logP (makeP 0 es)).1.length : Int))) || ixOk (IntKind.i64.wrap (((logP (makeP 0 es)).1.length : Int) - 1)) (logP (makeP 0 es)).1.length) = true := by
    by_cases c : (logP (makeP 0 es)).1.length = 0
    · simp [c]
    · rw [wrap_i64 (by omega) (by omega), ixOk_of (by omega) (by omega), Bool.or_true]
  have hdd : decide (e.Day < dayOf (logP (makeP 0 es)).1) = false := by rw [p1]; exact decide_eq_false (by omega)
  rw [e2]
  simp only [Option.bind_some, hcode, beq_self_eq_true, Bool.not_true, Bool.false_eq_true, if_false, ValidEntry_is, hone, k, ck_true, last_is' (es := (logP (makeP 0 es)).1) (d := e.Day) hin.1 (by omega), hdd, s2, lineOf_is hone s3 s4]
  rw [catOk_of (by simp; omega), ck_true, p3]
  rw [List.length_append] at hl
  have c4 : decide ((4000 : Int) < ((makeP 0 es ++ (((wordsN e ++ [32]) ++ Lib.itoa (stampF (lastP 0 es) e)) ++ [10])).length : Int)) = false := decide_eq_false (by rw [List.length_append]; omega)
  rw [if_neg (by rw [c4]; exact Bool.false_ne_true)]

end Go.Proofs.YtlcabohpeopdcaaGreatDoor

