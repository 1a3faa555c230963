/- What typed forms say: the log of a list of entries is read as that list. No condition. -/
import Derived.Test.YtkdojfpjnnceiaaDoorHLogE
namespace Go.Proofs.YtkdojfpjnnceiaaDoor
open Go Go.RowKit
set_option linter.unusedSimpArgs false
set_option linter.unusedVariables false

theorem rdDec_any {n : Int} (h0 : -1000000000000000000 < n) (h1 : n < 1000000000000000000) : rdDec (Lib.itoa n) = (n, true) := by
  by_cases hn : 0 ≤ n
  · obtain ⟨u, rfl⟩ := Int.eq_ofNat_of_zero_le hn
    rw [itoa_nat]
    have hl := Lib.decDigits_length u
    have hnd := nDigits_le 17 u (by omega)
    have hne := decDigits_ne u
    have hall := dec_all u
    have hval := val_dec 17 u (by omega)
    cases hd : Lib.decDigits u with
    | nil => rw [hd] at hne; exact absurd hne (by simp)
    | cons c r =>
      rw [hd] at hl hall hval hne
      have hc : c ≠ 45 := fun e => by
        subst e
        have : dig 45 = true := (List.all_eq_true.1 hall) 45 (by simp)
        exact absurd this (by decide)
      rw [rdDec_other hc, if_neg (by omega), if_pos hall, hval, if_pos (by rw [itoa_nat, hd])]
  · obtain ⟨u, hu⟩ := Int.eq_ofNat_of_zero_le (show 0 ≤ -n by omega)
    obtain rfl : n = -(u : Int) := by omega
    have e : Lib.itoa (-(u : Int)) = 45 :: Lib.decDigits u := by unfold Lib.itoa; rw [if_pos (by omega)]; simp
    rw [e]
    have hl := Lib.decDigits_length u
    have hnd := nDigits_le 17 u (by omega)
    have hne := decDigits_ne u
    have hall := dec_all u
    have hval := val_dec 17 u (by omega)
    rw [rdDec_minus, if_neg (by omega), if_pos hall, hval, if_pos e]

theorem dig_no {c : UInt8} (h : dig c = true) : c ≠ 32 ∧ c ≠ 10 := by
  have := dig_iff.1 h
  constructor <;> (rintro rfl; simp at this)

theorem itoa_no (n : Int) : ∀ c, c ∈ Lib.itoa n → c ≠ 32 ∧ c ≠ 10 := by
  intro c hc
  unfold Lib.itoa at hc
  split at hc
  · rcases List.mem_cons.1 hc with rfl | hc
    · decide
    · exact dig_no (List.all_eq_true.1 (dec_all _) c hc)
  · exact dig_no (List.all_eq_true.1 (dec_all _) c hc)

theorem name_no {s : List UInt8} (h : nameB s = true) : ∀ c, c ∈ s → c ≠ 32 ∧ c ≠ 10 := by
  intro c hc
  unfold nameB at h
  simp only [Bool.and_eq_true] at h
  obtain ⟨i, hi, rfl⟩ := List.getElem_of_mem hc
  have := all_range.1 h.2.2 i hi
  rw [getD_lt hi] at this
  unfold okc at this
  constructor
  · intro e; rw [e] at this; revert this; cases (i == 0) <;> decide
  · intro e; rw [e] at this; revert this; cases (i == 0) <;> decide

theorem oneN_name {e : Entry} (h : oneN e = true) : nameB e.What = true := by
  unfold oneN at h
  simp only [Bool.and_eq_true] at h
  exact h.1.2

/-- A line, without its end. -/
def lineT (st : Int) (e : Entry) : List UInt8 := (wordsN e ++ [32]) ++ Lib.itoa st

theorem lineT_split {e : Entry} (h : oneN e = true) (st : Int) : splitOn 32 (lineT st e) = [Lib.itoa e.Day, e.What, Lib.itoa e.Value, Lib.itoa st] := by
  have e1 : lineT st e = joinOn 32 [Lib.itoa e.Day, e.What, Lib.itoa e.Value, Lib.itoa st] := by
    rw [join_four]
    simp [lineT, wordsN]
  rw [e1]
  refine split_join 32 _ (by simp) fun p hp => ?_
  simp only [List.mem_cons, List.not_mem_nil, or_false] at hp
  rcases hp with rfl | rfl | rfl | rfl
  · exact fun c => (itoa_no _ _ c).1 rfl
  · exact fun c => (name_no (oneN_name h) _ c).1 rfl
  · exact fun c => (itoa_no _ _ c).1 rfl
  · exact fun c => (itoa_no _ _ c).1 rfl

theorem lineT_no {e : Entry} (h : oneN e = true) (st : Int) : 10 ∉ lineT st e := by
  intro hc
  simp only [lineT, wordsN, List.mem_append, List.mem_singleton] at hc
  rcases hc with (((((hc | hc) | hc) | hc) | hc) | hc) | hc
  · exact (itoa_no _ _ hc).2 rfl
  · exact absurd hc (by decide)
  · exact (name_no (oneN_name h) _ hc).2 rfl
  · exact absurd hc (by decide)
  · exact (itoa_no _ _ hc).2 rfl
  · exact absurd hc (by decide)
  · exact (itoa_no _ _ hc).2 rfl

theorem lineP_own {e : Entry} (h : oneN e = true) {last day : Int} (hd : day ≤ e.Day) : lineP last day (lineT (stampF last e) e) = some (e, stampF last e) := by
  have hin := oneN_in h
  unfold lineP
  rw [lineT_split h]
  unfold psP partsP
  dsimp only
  rw [rdDec_any (n := e.Day) (by omega) (by omega), rdDec_any (n := e.Value) (by omega) (by omega)]
  obtain ⟨d, s, v⟩ := e
  simp only [h, Bool.and_self, decide_true, Bool.and_true, Bool.true_and, hd, if_true]

/-- The log of entries, behind a stamp. -/
noncomputable def makeP : Int → List Entry → List UInt8
  | _, [] => []
  | last, e :: es => lineT (stampF last e) e ++ 10 :: makeP (stampF last e) es

def sortedP : Int → List Entry → Prop
  | _, [] => True
  | d, e :: es => d ≤ e.Day ∧ sortedP e.Day es

theorem readP_make {log : List UInt8} : ∀ (es done : List Entry) (i : Nat) (last : Int) (f : Nat), log.drop i = makeP last es → i ≤ log.length → sortedP (dayOf done) es → (∀ e, e ∈ es → oneN e = true) → 0 ≤ last → last ≤ 65520 → es.length < f →
    ∃ m, readP log f (done, i, last) = (done ++ es, log.length, m)
  | [], done, i, last, f, hd, hi, _, _, _, _, hf => by
    obtain ⟨f', rfl⟩ : ∃ f', f = f' + 1 := ⟨f - 1, by simp at hf; omega⟩
    have hd : log.drop i = [] := hd
    have hlen : i = log.length := by have := congrArg List.length hd; simp at this; omega
    refine ⟨last, ?_⟩
    unfold readP stepP
    simp only [hd]
    rw [cut_no (by simp)]
    simp [hlen]
  | e :: es, done, i, last, f, hd, hi, hs, ho, h0, h1, hf => by
    obtain ⟨f', rfl⟩ : ∃ f', f = f' + 1 := ⟨f - 1, by simp at hf; omega⟩
    have hone := ho e (by simp)
    obtain ⟨_, _, s0, s1⟩ := stampF_is hone h0 h1
    have hd : log.drop i = lineT (stampF last e) e ++ 10 :: makeP (stampF last e) es := hd
    have hlen := congrArg List.length hd
    simp only [List.length_drop, List.length_append, List.length_cons] at hlen
    have hstep : stepP log i last (dayOf done) = some (i + (lineT (stampF last e) e).length + 1, e, stampF last e) := by
      unfold stepP
      rw [hd, cut_yes (lineT_no hone _)]
      simp only [lineP_own hone hs.1, Option.map_some]
    have hdrop : log.drop (i + (lineT (stampF last e) e).length + 1) = makeP (stampF last e) es := by
      rw [Nat.add_assoc, ← List.drop_drop, hd, ← List.drop_drop, List.drop_left]
      rfl
    obtain ⟨m, hm⟩ := readP_make es (done ++ [e]) (i + (lineT (stampF last e) e).length + 1) (stampF last e) f' hdrop (by omega) (by rw [dayOf_snoc]; exact hs.2) (fun x hx => ho x (by simp [hx])) s0 s1 (by simp at hf; omega)
    refine ⟨m, ?_⟩
    unfold readP
    simp only [hstep]
    rw [hm]
    simp

theorem lineT_len {e : Entry} (h : oneN e = true) {st : Int} (h0 : 0 ≤ st) (h1 : st ≤ 65520) : 1 ≤ (lineT st e).length ∧ (lineT st e).length ≤ 100 := by
  have l1 := words_len h
  have l2 := itoa_len (n := st) ⟨by omega, by omega⟩
  simp only [lineT, List.length_append, List.length_singleton]
  omega

theorem makeP_len : ∀ (es : List Entry) (last : Int), (∀ e, e ∈ es → oneN e = true) → 0 ≤ last → last ≤ 65520 → es.length ≤ (makeP last es).length ∧ (makeP last es).length ≤ 101 * es.length
  | [], _, _, _, _ => ⟨Nat.le_refl _, by simp [makeP]⟩
  | e :: es, last, ho, h0, h1 => by
    have hone := ho e (by simp)
    obtain ⟨_, _, s0, s1⟩ := stampF_is hone h0 h1
    have ih := makeP_len es (stampF last e) (fun x hx => ho x (by simp [hx])) s0 s1
    have hl := lineT_len hone s0 s1
    simp only [makeP, List.length_append, List.length_cons]
    omega

/-- The log of valid entries in order is read as these entries. -/
theorem logP_make {es : List Entry} (hs : sortedP 0 es) (ho : ∀ e, e ∈ es → oneN e = true) : (logP (makeP 0 es)).1 = es ∧ (logP (makeP 0 es)).2.1 = (makeP 0 es).length := by
  obtain ⟨m, hm⟩ := readP_make (log := makeP 0 es) es [] 0 0 ((makeP 0 es).length + 1) rfl (Nat.zero_le _) hs ho (by omega) (by omega) (by have := makeP_len es 0 ho (by omega) (by omega); omega)
  unfold logP
  rw [hm]
  exact ⟨rfl, rfl⟩

theorem make_loop {es : List Entry} (hl : es.length ≤ 100000) (ho : ∀ e, e ∈ es → oneN e = true) :
    ∀ (k i : Nat) (out : List UInt8) (last : Int), i + k = es.length → out.length ≤ 101 * i → 0 ≤ last → last ≤ 65520 → whileE (spec_l27Make_l1 es) (out, last, (i : Int)) = some (out ++ makeP last (es.drop i))
  | 0, i, out, last, hk, _, _, _ => by
    have hie : i = es.length := by omega
    subst hie
    rw [List.drop_length]
    exact whileE_done (by simp [spec_l27Make_l1, makeP])
  | k + 1, i, out, last, hk, hout, h0, h1 => by
    have hi : i < es.length := by omega
    have hmem : es.getD i default ∈ es := by rw [getD_lt hi]; exact List.getElem_mem hi
    have hone := ho _ hmem
    obtain ⟨e1, _, s0, s1⟩ := stampF_is hone h0 h1
    have hl2 := lineT_len hone s0 s1
    have hd : es.drop i = es.getD i default :: es.drop (i + 1) := by rw [getD_lt hi]; exact List.drop_eq_getElem_cons hi
    have hstep : spec_l27Make_l1 es (out, last, (i : Int)) = some (.inl (out ++ (lineT (stampF last (es.getD i default)) (es.getD i default) ++ [10]), stampF last (es.getD i default), ((i + 1 : Nat) : Int))) := by
      simp only [spec_l27Make_l1, Int.ofNat_lt, hi, decide_true, if_true, ixOk_nat, ck_true, Int.toNat_natCast, wrap_nat1 (show i < 9223372036854775807 by omega), l27Words_is hone, Option.bind_some, e1, l27Line_is hone s0 s1]
      rw [appOk_of (by have := hl2.2; simp only [lineT] at this; simp only [List.length_append, List.length_singleton] at this ⊢; omega), ck_true]
      rfl
    rw [whileE_next hstep, make_loop hl ho k (i + 1) _ _ (by omega) (by simp only [List.length_append, List.length_singleton]; omega) s0 s1, hd]
    simp [makeP]

theorem l27Make_is {es : List Entry} (hl : es.length ≤ 100000) (ho : ∀ e, e ∈ es → oneN e = true) : spec_l27Make es = some (makeP 0 es) := by
  unfold spec_l27Make
  have := make_loop hl ho es.length 0 [] 0 (by omega) (by simp) (by omega) (by omega)
  rw [show whileE (spec_l27Make_l1 es) ([], 0, 0) = _ from this]
  rfl

end Go.Proofs.YtkdojfpjnnceiaaDoor
