/- What typed forms say: a log is read, by the program and by the reference. No condition. -/
import Derived.Test.YtbdghipedlldbaaGreatDoorHTextL
import Derived.Test.YtbdghipedlldbaaGreatDoorHStamp
namespace Go.Proofs.YtbdghipedlldbaaGreatDoor
open Go Go.RowKit
set_option linter.unusedSimpArgs false
set_option linter.unusedVariables false

/-! ### A numeral's own reading -/

theorem valF_app (n : Nat) (a b : List UInt8) : valF n (a ++ b) = valF (valF n a) b := by unfold valF; rw [List.foldl_append]

theorem val_dec : ∀ (k u : Nat), u < 10 ^ (k + 1) → valF 0 (Lib.decDigits u) = u
  | 0, u, h => by
    have h : u < 10 := by simpa using h
    rw [Lib.decDigits_one h, valF_cons, valF_nil, UInt8.toNat_ofNat']
    omega
  | k + 1, u, h => by
    by_cases c : u < 10
    · rw [Lib.decDigits_one c, valF_cons, valF_nil, UInt8.toNat_ofNat']
      omega
    · rw [Lib.decDigits, dif_neg c, valF_app, val_dec k (u / 10) (by rw [Nat.pow_succ] at h; omega), valF_cons, valF_nil, UInt8.toNat_ofNat']
      omega

theorem itoa_nat (u : Nat) : Lib.itoa (u : Int) = Lib.decDigits u := by unfold Lib.itoa; rw [if_neg (by omega)]; simp

theorem rdDec_small {n : Int} (h0 : 0 ≤ n) (h1 : n ≤ 65520) : rdDec (Lib.itoa n) = (n, true) := by
  obtain ⟨u, rfl⟩ := Int.eq_ofNat_of_zero_le h0
  rw [itoa_nat]
  have hl := Lib.decDigits_length u
  have hn := nDigits_le 4 u (by omega)
  have hne := decDigits_ne u
  have hall := dec_all u
  have hval := val_dec 4 u (by omega)
  cases hd : Lib.decDigits u with
  | nil => rw [hd] at hne; exact absurd hne (by simp)
  | cons c r =>
    rw [hd] at hl hall hval hne
    have hc : c ≠ 45 := fun e => by
      subst e
      have : dig 45 = true := (List.all_eq_true.1 hall) 45 (by simp)
      exact absurd this (by decide)
    rw [rdDec_other hc, if_neg (by omega), if_pos hall, hval, if_pos (by rw [itoa_nat, hd])]

/-! ### A line -/

noncomputable def stampF (last : Int) (e : Entry) : Int := (impl_stamp last e).getD 0

theorem stampF_is {e : Entry} (h : oneN e = true) {n : Int} (h0 : 0 ≤ n) (h1 : n ≤ 65520) : spec_l27Stamp n (wordsN e) = some (stampF n e) ∧ impl_stamp n e = some (stampF n e) ∧ 0 ≤ stampF n e ∧ stampF n e ≤ 65520 := by
  obtain ⟨s, h2, h3, h4, h5⟩ := stamp_is h h0 h1
  have : stampF n e = s := by unfold stampF; rw [h3]; rfl
  rw [this]
  exact ⟨h2, h3, h4, h5⟩

/-- The parts of a line are the words of an entry that follows, and its stamp. -/
noncomputable def partsP (last day : Int) (p0 p1 p2 p3 : List UInt8) : Option (Entry × Int) :=
  if ((((rdDec p0).2 && (rdDec p2).2) && oneN ⟨(rdDec p0).1, p1, (rdDec p2).1⟩) && decide (day ≤ (rdDec p0).1)) && decide (Lib.itoa (stampF last ⟨(rdDec p0).1, p1, (rdDec p2).1⟩) = p3)
  then some (⟨(rdDec p0).1, p1, (rdDec p2).1⟩, stampF last ⟨(rdDec p0).1, p1, (rdDec p2).1⟩) else none

noncomputable def psP (last day : Int) : List (List UInt8) → Option (Entry × Int)
  | [p0, p1, p2, p3] => partsP last day p0 p1 p2 p3
  | _ => none

theorem psP_ne {last day : Int} {ps : List (List UInt8)} (h : ps.length ≠ 4) : psP last day ps = none := by
  unfold psP
  split
  · exact absurd rfl h
  · rfl

noncomputable def lineP (last day : Int) (line : List UInt8) : Option (Entry × Int) := psP last day (splitOn 32 line)

/-- What is behind the first i bytes begins with a line that follows. -/
noncomputable def stepP (log : List UInt8) (i : Nat) (last day : Int) : Option (Nat × Entry × Int) :=
  match Lib.cut (log.drop i) [10] with
  | (line, _, true) => (lineP last day line).map fun q => (i + line.length + 1, q.1, q.2)
  | _ => none

def dayOf (es : List Entry) : Int := if es.length = 0 then 0 else (es.getD (es.length - 1) default).Day

theorem dayOf_snoc (es : List Entry) (e : Entry) : dayOf (es ++ [e]) = e.Day := by
  unfold dayOf
  rw [if_neg (by simp)]
  simp

theorem stepP_in {log : List UInt8} {i : Nat} {last day : Int} {i' : Nat} {e : Entry} {m : Int} (h : stepP log i last day = some (i', e, m)) (h0 : 0 ≤ last) (h1 : last ≤ 65520) (hi : i ≤ log.length) :
    i < i' ∧ i' ≤ log.length ∧ 0 ≤ m ∧ m ≤ 65520 ∧ oneN e = true ∧ day ≤ e.Day := by
  unfold stepP at h
  split at h
  · rename_i line x hc
    rw [Option.map_eq_some_iff] at h
    obtain ⟨⟨e', m'⟩, hl, he⟩ := h
    simp only [Prod.mk.injEq] at he
    obtain ⟨rfl, rfl, rfl⟩ := he
    unfold lineP psP at hl
    split at hl
    · unfold partsP at hl
      split at hl
      · rename_i hb
        cases hl
        simp only [Bool.and_eq_true, decide_eq_true_eq] at hb
        obtain ⟨⟨⟨_, hone⟩, hday⟩, _⟩ := hb
        obtain ⟨_, _, s0, s1⟩ := stampF_is hone h0 h1
        refine ⟨by omega, ?_, s0, s1, hone, hday⟩
        rcases idx_cases 10 (log.drop i) with ⟨_, hn⟩ | ⟨a, b, hab, hn, _⟩
        · rw [cut_no hn] at hc; cases hc
        · rw [hab, cut_yes hn] at hc
          cases hc
          have := congrArg List.length hab
          simp only [List.length_drop, List.length_append, List.length_cons] at this
          omega
      · cases hl
    · cases hl
  · cases h

/-- The longest beginning of a text that is a log, by at most f lines more. -/
noncomputable def readP (log : List UInt8) : Nat → List Entry × Nat × Int → List Entry × Nat × Int
  | 0, s => s
  | f + 1, s => match stepP log s.2.1 s.2.2 (dayOf s.1) with
    | none => s
    | some q => readP log f (s.1 ++ [q.2.1], q.1, q.2.2)

noncomputable def logP (log : List UInt8) : List Entry × Nat × Int := readP log (log.length + 1) ([], 0, 0)

structure LInv (log : List UInt8) (s : List Entry × Nat × Int) : Prop where
  at_ : s.2.1 ≤ log.length
  few : s.1.length ≤ s.2.1
  lo : 0 ≤ s.2.2
  hi : s.2.2 ≤ 65520
  ok : ∀ e, e ∈ s.1 → oneN e = true

theorem LInv.step {log : List UInt8} {s : List Entry × Nat × Int} (h : LInv log s) {q : Nat × Entry × Int} (hq : stepP log s.2.1 s.2.2 (dayOf s.1) = some q) : LInv log (s.1 ++ [q.2.1], q.1, q.2.2) := by
  obtain ⟨i', e, m⟩ := q
  obtain ⟨h1, h2, h3, h4, h5, h6⟩ := stepP_in hq h.lo h.hi h.at_
  have := h.few
  refine ⟨h2, by simp; omega, h3, h4, fun x hx => ?_⟩
  rcases List.mem_append.1 hx with hx | hx
  · exact h.ok x hx
  · rw [List.mem_singleton.1 hx]; exact h5

theorem readP_inv {log : List UInt8} : ∀ (f : Nat) {s : List Entry × Nat × Int}, LInv log s → LInv log (readP log f s)
  | 0, _, h => h
  | f + 1, s, h => by
    unfold readP
    split
    · exact h
    · rename_i q hq; exact readP_inv f (h.step hq)

theorem start_inv (log : List UInt8) : LInv log ([], 0, 0) := ⟨Nat.zero_le _, Nat.le_refl _, Int.le_refl _, by decide, fun e he => by simp at he⟩

theorem logP_inv (log : List UInt8) : LInv log (logP log) := readP_inv _ (start_inv log)

/-- A loop that goes by stepP ends where readP does. -/
theorem read_loop {σ ρ : Type} {step : σ → Option (σ ⊕ ρ)} {log : List UInt8} (E : List Entry × Nat × Int → σ) (R : List Entry × Nat × Int → ρ)
    (hs : ∀ s, LInv log s → step (E s) = match stepP log s.2.1 s.2.2 (dayOf s.1) with
      | none => some (.inr (R s))
      | some q => some (.inl (E (s.1 ++ [q.2.1], q.1, q.2.2)))) :
    ∀ (f : Nat) (s : List Entry × Nat × Int), LInv log s → log.length < f + s.2.1 → whileE step (E s) = some (R (readP log f s))
  | 0, s, h, hf => by have := h.at_; omega
  | f + 1, s, h, hf => by
    have h1 := hs s h
    unfold readP
    cases hq : stepP log s.2.1 s.2.2 (dayOf s.1) with
    | none => rw [hq] at h1; exact whileE_done h1
    | some q =>
      rw [hq] at h1
      rw [whileE_next h1]
      obtain ⟨g1, _⟩ := stepP_in (i' := q.1) (e := q.2.1) (m := q.2.2) hq h.lo h.hi h.at_
      exact read_loop E R hs f _ (h.step hq) (by show log.length < f + q.1; omega)

end Go.Proofs.YtbdghipedlldbaaGreatDoor
