/- What typed forms say: entries are drawn, valid and in order; their log. No condition. -/
import Derived.Test.YtkdojfpjnnceiaaDoorHLogM
import Derived.Test.YtkdojfpjnnceiaaDoorHDrawA
import Derived.Test.YtkdojfpjnnceiaaDoorHDrawT
namespace Go.Proofs.YtkdojfpjnnceiaaDoor
open Go Go.RowKit
set_option linter.unusedSimpArgs false
set_option linter.unusedVariables false

theorem drawEntry_is {m : Nat} {s : L00Src} (h : SrcN (m + 10) s) (day : Int) : ∃ e s', spec_l27DrawEntry s day = some (e, s') ∧ SrcN m s' := by
  unfold spec_l27DrawEntry
  obtain ⟨v1, s1, e1, _, _, _, h1⟩ := pick_is (m := m + 8) h (n := 4) (by decide)
  obtain ⟨v2, s2, e2, _, h2⟩ := text_is (m := m + 6) h1 (l := [([115, 101, 101, 110] : List UInt8), ([104, 111, 117, 114, 115] : List UInt8), ([115, 116, 97, 114, 45, 51] : List UInt8), ([99, 108, 111, 117, 100, 115] : List UInt8)]) (by decide) (by decide)
  obtain ⟨v3, s3, e3, _, _, _, h3⟩ := pick_is (m := m + 4) h2 (n := 900) (by decide)
  obtain ⟨v4, s4, e4, _, _, _, h4⟩ := pick_is (m := m + 2) h3 (n := 24) (by decide)
  obtain ⟨v5, s5, e5, _, h5⟩ := among_is (m := m) h4 (l := [(-1), 0, 100000, 100001]) (by decide) (by decide)
  obtain ⟨v6, s6, e6, _, h6⟩ := text_is (m := m) h4 (l := [([] : List UInt8), ([83, 101, 101, 110] : List UInt8), ([97, 32, 98] : List UInt8)]) (by decide) (by decide)
  obtain ⟨v7, s7, e7, _, h7⟩ := among_is (m := m) h4 (l := [(-1000001), (-1000000), 1000000, 1000001, (-9223372036854775808)]) (by decide) (by decide)
  simp only [e1, e2, e3, e4, e5, e6, e7, Option.bind_some]
  split
  · exact ⟨_, _, rfl, h5⟩
  · split
    · exact ⟨_, _, rfl, h6⟩
    · split
      · exact ⟨_, _, rfl, h7⟩
      · exact ⟨_, _, rfl, h4.le (by omega)⟩

theorem sorted_snoc : ∀ (l : List Entry) (d : Int) (e e' : Entry), sortedP d (l ++ [e]) → e.Day ≤ e'.Day → sortedP d (l ++ [e] ++ [e'])
  | [], d, e, e', h, h' => ⟨h.1, h', trivial⟩
  | x :: l, d, e, e', h, h' => ⟨h.1, sorted_snoc l x.Day e e' h.2 h'⟩

theorem entries_is {s : L00Src} (h : SrcN 200 s) : ∃ es s', spec_l27Entries s 7 = some (es, s') ∧ es.length ≤ 7 ∧ sortedP 0 es ∧ ∀ e, e ∈ es → oneN e = true := by
  unfold spec_l27Entries
  rw [show IntKind.i64.wrap (7 + 1) = 8 by decide]
  obtain ⟨k, s1, e1, k0, k1, _, h1⟩ := pick_is (m := 198) h (n := 8) (by decide)
  have k1 := k1 (by decide)
  rw [e1]
  simp only [Option.bind_some]
  obtain ⟨y, hy, hq⟩ := while_post (step := spec_l27Entries_l1) (fun st => ∃ j : Nat, st.2.2.2 = (j : Int) ∧ j ≤ 7 ∧ SrcN (10 * j) st.1 ∧ st.2.1.length + j ≤ 7 ∧ 0 ≤ st.2.2.1 ∧ (∀ e, e ∈ st.2.1 → oneN e = true) ∧ sortedP 0 st.2.1 ∧ ∀ e', st.2.2.1 ≤ e'.Day → sortedP 0 (st.2.1 ++ [e']))
    (fun y => y.2.length ≤ 7 ∧ sortedP 0 y.2 ∧ ∀ e, e ∈ y.2 → oneN e = true) (fun st => st.2.2.2.toNat) (by
    rintro ⟨s, out, day, kk⟩ ⟨j, hj, hj7, hS, hl, hd, ho, hs, hn⟩
    simp only at hj hS hl hd ho hs hn
    subst hj
    by_cases h0 : j = 0
    · right
      subst h0
      exact ⟨(s, out), by simp [spec_l27Entries_l1], by show out.length ≤ 7; omega, hs, ho⟩
    · left
      obtain ⟨j', rfl⟩ : ∃ j', j = j' + 1 := ⟨j - 1, by omega⟩
      obtain ⟨e, s', he, hS'⟩ := drawEntry_is (m := 10 * j') (s := s) (by rw [show 10 * j' + 10 = 10 * (j' + 1) by omega]; exact hS) day
      have c1 : decide ((0 : Int) < ((j' + 1 : Nat) : Int)) = true := decide_eq_true (by omega)
      have w1 : IntKind.i64.wrap (((j' + 1 : Nat) : Int) - 1) = (j' : Int) := by rw [wrap_i64 (by omega) (by omega)]; omega
      by_cases hc : (oneN e && decide (day ≤ e.Day)) = true
      · refine ⟨(s', out ++ [e], e.Day, (j' : Int)), ?_, ⟨j', rfl, by omega, hS', by simp; omega, ?_, ?_, ?_, ?_⟩, by simp⟩
        · simp only [spec_l27Entries_l1, c1, if_true, he, Option.bind_some, l27Ok_is, hc, w1]
          rw [appOk_of (by simp; omega), ck_true]
        · simp only [Bool.and_eq_true, decide_eq_true_eq] at hc
          show 0 ≤ e.Day
          omega
        · intro x hx
          rcases List.mem_append.1 hx with hx | hx
          · exact ho x hx
          · rw [List.mem_singleton.1 hx]
            simp only [Bool.and_eq_true] at hc
            exact hc.1
        · simp only [Bool.and_eq_true, decide_eq_true_eq] at hc
          exact hn e hc.2
        · intro e' he'
          simp only [Bool.and_eq_true, decide_eq_true_eq] at hc
          exact sorted_snoc out 0 e e' (hn e hc.2) he'
      · refine ⟨(s', out, day, (j' : Int)), ?_, ⟨j', rfl, by omega, hS', by simp; omega, hd, ho, hs, hn⟩, by simp⟩
        have hc := Bool.eq_false_iff.2 hc
        simp only [spec_l27Entries_l1, c1, if_true, he, Option.bind_some, l27Ok_is, hc, w1, Bool.false_eq_true, if_false]) (s := (s1, ([] : List Entry), 0, k))
    ⟨k.toNat, by show k = _; omega, by omega, h1.le (by omega), by simp; omega, by show (0 : Int) ≤ 0; omega, fun e he => by simp at he, trivial, fun e' he' => show sortedP 0 [e'] from ⟨he', trivial⟩⟩
  rw [hy]
  exact ⟨y.2, y.1, rfl, hq.1, hq.2.1, hq.2.2⟩

theorem A2Entries_is {code : List UInt8} (hl : code.length ≤ 1099511627776) : ∃ es, spec_A2Entries code = some es ∧ es.length ≤ 7 ∧ sortedP 0 es ∧ ∀ e, e ∈ es → oneN e = true := by
  unfold spec_A2Entries
  obtain ⟨es, s', e1, h⟩ := entries_is (s := ⟨code, 0, 0⟩) ((srcN_from hl).le (by decide))
  rw [From_is]
  simp only [Option.bind_some, e1]
  exact ⟨es, rfl, h⟩

theorem sorted_get : ∀ (l : List Entry) (d : Int) (i : Nat), sortedP d l → i + 1 < l.length → (l.getD i default).Day ≤ (l.getD (i + 1) default).Day
  | [], _, _, _, hi => absurd hi (by simp)
  | [_], _, _, _, hi => absurd hi (by simp)
  | x :: y :: l, d, 0, h, _ => h.2.1
  | x :: y :: l, d, i + 1, h, hi => by
    have := sorted_get (y :: l) x.Day i h.2 (by simpa using hi)
    simpa only [List.getD_cons_succ] using this

theorem LogOf_is {es : List Entry} (hl : es.length ≤ 7) (hs : sortedP 0 es) (ho : ∀ e, e ∈ es → oneN e = true) : spec_LogOf es = some (makeP 0 es, 0) := by
  unfold spec_LogOf
  have l1 := whileE_run (step := spec_LogOf_l1 es) (fun i => (i : Int)) es.length (r := .inl ()) (fun i hi => by
    have hm : es.getD i default ∈ es := by rw [getD_lt hi]; exact List.getElem_mem hi
    simp only [spec_LogOf_l1, Int.ofNat_lt, hi, decide_true, if_true, ixOk_nat, ck_true, Int.toNat_natCast, wrap_nat1 (show i < 9223372036854775807 by omega), l27Ok_is, ho _ hm, Option.bind_some, Bool.not_true, Bool.false_eq_true, if_false]) (by simp [spec_LogOf_l1])
  rw [show whileE (spec_LogOf_l1 es) 0 = _ from l1]
  simp only [Option.bind_some]
  have l2 : whileE (spec_LogOf_l2 es) 1 = some (.inl ()) := by
    by_cases h0 : es.length ≤ 1
    · refine whileE_done ?_
      have c : decide ((1 : Int) < (es.length : Int)) = false := decide_eq_false (by omega)
      simp only [spec_LogOf_l2, c, Bool.false_eq_true, if_false]
    · have := whileE_run (step := spec_LogOf_l2 es) (fun i => ((i + 1 : Nat) : Int)) (es.length - 1) (r := .inl ()) (fun i hi => by
        have hi' : i + 1 < es.length := by omega
        have hg := sorted_get es 0 i hs hi'
        have w : IntKind.i64.wrap (((i + 1 : Nat) : Int) - 1) = (i : Int) := by rw [wrap_i64 (by omega) (by omega)]; omega
        have c : decide ((es.getD (i + 1) default).Day < (es.getD i default).Day) = false := decide_eq_false (by omega)
        simp only [spec_LogOf_l2, Int.ofNat_lt, hi', decide_true, if_true, ixOk_nat, ck_true, Int.toNat_natCast, w, wrap_nat1 (show i + 1 < 9223372036854775807 by omega), c, Bool.false_eq_true, if_false, show i < es.length by omega]) (by
        have c : decide (((es.length - 1 + 1 : Nat) : Int) < (es.length : Int)) = false := decide_eq_false (by omega)
        simp only [spec_LogOf_l2, c, Bool.false_eq_true, if_false])
      exact this
  have hlen := makeP_len es 0 ho (by omega) (by omega)
  have c : decide ((4000 : Int) < ((makeP 0 es).length : Int)) = false := decide_eq_false (by omega)
  simp only [l2, Option.bind_some, l27Make_is (show es.length ≤ 100000 by omega) ho, c, Bool.false_eq_true, if_false]

end Go.Proofs.YtkdojfpjnnceiaaDoor
