/- Plain lemmas, several texts in one. No condition. -/
import Derived.Test.YtlcabohpeopdcaaGreatDoorLGL
import Derived.Test.YtlcabohpeopdcaaGreatDoorHPA
import Derived.Test.YtlcabohpeopdcaaGreatDoorHPB
/- What typed forms say: choices drawn from bytes. No condition. -/
namespace Go.Proofs.YtlcabohpeopdcaaGreatDoor
open Go Go.RowKit
set_option linter.unusedSimpArgs false
set_option linter.unusedVariables false

def SrcN (m : Nat) (s : L00Src) : Prop := 0 ≤ s.at_ ∧ s.at_ + m ≤ 1000000000000 ∧ s.code_.length ≤ 1099511627776

theorem SrcN.le {m n : Nat} {s : L00Src} (h : SrcN m s) (hn : n ≤ m) : SrcN n s := ⟨h.1, by have := h.2.1; omega, h.2.2⟩

theorem From_is (c : List UInt8) : spec_l00From c = some ⟨c, 0, 0⟩ := id rfl

theorem srcN_from {c : List UInt8} (h : c.length ≤ 1099511627776) : SrcN 900000000000 ⟨c, 0, 0⟩ := ⟨by show (0 : Int) ≤ 0; omega, by show (0 : Int) + _ ≤ _; omega, h⟩

theorem and255 (n : Int) : 0 ≤ IntKind.u64.wrap (BitVec.ofInt (IntKind.bits .u64) n &&& BitVec.ofInt (IntKind.bits .u64) 255).toNat ∧ IntKind.u64.wrap (BitVec.ofInt (IntKind.bits .u64) n &&& BitVec.ofInt (IntKind.bits .u64) 255).toNat ≤ 255 := by
  have h : (BitVec.ofInt (IntKind.bits .u64) n &&& BitVec.ofInt (IntKind.bits .u64) 255).toNat ≤ 255 := by
    rw [BitVec.toNat_and]
    refine Nat.le_trans Nat.and_le_right ?_
    decide
  generalize (BitVec.ofInt (IntKind.bits .u64) n &&& BitVec.ofInt (IntKind.bits .u64) 255).toNat = q at h ⊢
  unfold IntKind.wrap IntKind.bits
  simp [IntKind.signed]
  omega

theorem next_is {m : Nat} {s : L00Src} (h : SrcN (m + 1) s) : ∃ v s', spec_l00Src_next s = some (v, s') ∧ 0 ≤ v ∧ v ≤ 255 ∧ SrcN m s' := by
  obtain ⟨c, at_, seed⟩ := s
  obtain ⟨h1, h2, h3⟩ := h
  simp only at h1 h2 h3
  have w : IntKind.i64.wrap (at_ + 1) = at_ + 1 := wrap_i64 (by omega) (by omega)
  have hn : ∀ z, SrcN m ⟨c, at_ + 1, z⟩ := fun z => ⟨by show 0 ≤ at_ + 1; omega, by show at_ + 1 + (m : Int) ≤ _; omega, h3⟩
  have w255 : ∀ n, IntKind.i64.wrap (IntKind.u64.wrap (BitVec.ofInt (IntKind.bits .u64) n &&& BitVec.ofInt (IntKind.bits .u64) 255).toNat) = IntKind.u64.wrap (BitVec.ofInt (IntKind.bits .u64) n &&& BitVec.ofInt (IntKind.bits .u64) 255).toNat := fun n => by
    have := and255 n
    exact wrap_i64 (by omega) (by omega)
  unfold spec_l00Src_next
  simp only [w]
  by_cases c1 : at_ < (c.length : Int)
  · have b := u8_lt (c.getD at_.toNat default)
    have c2 : at_ + 1 ≤ (c.length : Int) := by omega
    rw [ixOk_of h1 (by omega)]
    simp only [c1, c2, decide_true, if_true, ck_true]
    exact ⟨_, _, rfl, by omega, by omega, hn _⟩
  · simp only [c1, decide_false, Bool.false_eq_true, if_false]
    have c2 : ¬ at_ + 1 ≤ (c.length : Int) := by omega
    simp only [c2, decide_false, Bool.false_eq_true, if_false]
    rw [shOk_of (by omega), ck_true, w255]
    exact ⟨_, _, rfl, (and255 _).1, (and255 _).2, hn _⟩

theorem pick_is {m : Nat} {s : L00Src} (h : SrcN (m + 2) s) {n : Int} (hn : n ≤ 9223372036854775807) : ∃ v s', spec_l00Src_pick s n = some (v, s') ∧ 0 ≤ v ∧ (1 ≤ n → v < n) ∧ (n ≤ 1 → v = 0) ∧ SrcN m s' := by
  unfold spec_l00Src_pick
  by_cases c : n ≤ 1
  · simp only [c, decide_true, if_true]
    exact ⟨0, s, rfl, by omega, by omega, fun _ => rfl, h.le (by omega)⟩
  · obtain ⟨v1, s1, e1, a1, b1, h1⟩ := next_is h
    obtain ⟨v2, s2, e2, a2, b2, h2⟩ := next_is h1
    simp only [c, decide_false, Bool.false_eq_true, if_false, e1, Option.bind_some]
    by_cases c2 : 200 < n
    · have w1 : IntKind.i64.wrap (v1 * 256) = v1 * 256 := wrap_i64 (by omega) (by omega)
      have w2 : IntKind.i64.wrap (v1 * 256 + v2) = v1 * 256 + v2 := wrap_i64 (by omega) (by omega)
      simp only [c2, decide_true, if_true, e2, Option.bind_some, nz_of (show n ≠ 0 by omega), ck_true, w1, w2, Int.tmod_eq_emod_of_nonneg (show 0 ≤ v1 * 256 + v2 by omega)]
      exact ⟨_, _, rfl, Int.emod_nonneg _ (by omega), fun _ => Int.emod_lt_of_pos _ (by omega), fun hc => hc.elim, h2⟩
    · simp only [c2, decide_false, Bool.false_eq_true, if_false, nz_of (show n ≠ 0 by omega), ck_true, Int.tmod_eq_emod_of_nonneg a1]
      exact ⟨_, _, rfl, Int.emod_nonneg _ (by omega), fun _ => Int.emod_lt_of_pos _ (by omega), fun hc => hc.elim, h1.le (by omega)⟩

end Go.Proofs.YtlcabohpeopdcaaGreatDoor

/- What typed forms say: one of some numbers. No condition. -/
namespace Go.Proofs.YtlcabohpeopdcaaGreatDoor
open Go Go.RowKit
set_option linter.unusedSimpArgs false
set_option linter.unusedVariables false

theorem among_is {m : Nat} {s : L00Src} (h : SrcN (m + 2) s) {l : List Int} (h1 : 1 ≤ l.length) (h2 : l.length ≤ 1000) : ∃ v s', spec_l00Src_among s l = some (v, s') ∧ v ∈ l ∧ SrcN m s' := by
  obtain ⟨v, s', e, a, b, _, h'⟩ := pick_is h (n := (l.length : Int)) (by omega)
  have := b (by omega)
  unfold spec_l00Src_among
  rw [e]
  simp only [Option.bind_some]
  rw [ixOk_of a (by omega), ck_true]
  exact ⟨_, s', rfl, getD_mem (by omega) _, h'⟩

end Go.Proofs.YtlcabohpeopdcaaGreatDoor

/- What typed forms say: one of some texts. No condition. -/
namespace Go.Proofs.YtlcabohpeopdcaaGreatDoor
open Go Go.RowKit
set_option linter.unusedSimpArgs false
set_option linter.unusedVariables false

theorem text_is {m : Nat} {s : L00Src} (h : SrcN (m + 2) s) {l : List (List UInt8)} (h1 : 1 ≤ l.length) (h2 : l.length ≤ 1000) : ∃ v s', spec_l00Src_text s l = some (v, s') ∧ v ∈ l ∧ SrcN m s' := by
  obtain ⟨v, s', e, a, b, _, h'⟩ := pick_is h (n := (l.length : Int)) (by omega)
  have := b (by omega)
  unfold spec_l00Src_text
  rw [e]
  simp only [Option.bind_some]
  rw [ixOk_of a (by omega), ck_true]
  exact ⟨_, s', rfl, getD_mem (by omega) _, h'⟩

end Go.Proofs.YtlcabohpeopdcaaGreatDoor

/- What typed forms say: entries are drawn, valid and in order; their log. No condition. -/
namespace Go.Proofs.YtlcabohpeopdcaaGreatDoor
open Go Go.RowKit
set_option linter.unusedSimpArgs false
set_option linter.unusedVariables false

theorem drawEntry_is {m : Nat} {s : L00Src} (h : SrcN (m + 10) s) (day : Int) : ∃ e s', spec_l27DrawEntry s day = some (e, s') ∧ SrcN m s' := by
  unfold spec_l27DrawEntry
  obtain ⟨v1, s1, e1, _, _, _, h1⟩ := pick_is (m := m + 8) h (n := 4) (by decide)
  obtain ⟨v2, s2, e2, _, h2⟩ := text_is (m := m + 6) h1 (l := [([115, 101, 101, 110] : List UInt8), ([104, 111, 117, 114, 115] : List UInt8), ([115, 116, 97, 114, 45, 51] : List UInt8), ([99, 108, 111, 117, 100, 115] : List UInt8)]) (by decide) (by decide)
  obtain ⟨v3, s3, e3, _, _, _, h3⟩ := pick_is (m := m + 4) h2 (n := 900) (by decide)
  obtain ⟨v4, s4, e4, _, _, _, h4⟩ := pick_is (m := m + 2) h3 (n := 24) (by decide)
  obtain ⟨v5, s5, e5, _, h5⟩ := among_is (m := m) h4 (l := [(-1), 0, 100000, 100001]) (by decide) (by decide)
  obtain ⟨v6, s6, e6, _, h6⟩ := text_is (m := m) h4 (l := [([] : List UInt8), ([83, 101, 101, 110] : List UInt8), ([97, 32, 98] : List UInt8)]) (by decide) (by decide)
  obtain ⟨v7, s7, e7, _, h7⟩ := among_is (m := m) h4 (l := [(-1000001), (-1000000), 1000000, 1000001, (-9223372036854775808)]) (by decide) (by decide)
  simp only [e1, e2, e3, e4, e5, e6, e7, Option.bind_some]
  split
  · exact ⟨_, _, rfl, h5⟩
  · split
    · exact ⟨_, _, rfl, h6⟩
    · split
      · exact ⟨_, _, rfl, h7⟩
      · exact ⟨_, _, rfl, h4.le (by omega)⟩

theorem sorted_snoc : ∀ (l : List Entry) (d : Int) (e e' : Entry), sortedP d (l ++ [e]) → e.Day ≤ e'.Day → sortedP d (l ++ [e] ++ [e'])
  | [], d, e, e', h, h' => ⟨h.1, h', trivial⟩
  | x :: l, d, e, e', h, h' => ⟨h.1, sorted_snoc l x.Day e e' h.2 h'⟩

theorem entries_is {s : L00Src} (h : SrcN 200 s) : ∃ es s', spec_l27Entries s 7 = some (es, s') ∧ es.length ≤ 7 ∧ sortedP 0 es ∧ ∀ e, e ∈ es → oneN e = true := by
  unfold spec_l27Entries
  rw [show IntKind.i64.wrap (7 + 1) = 8 by decide]
  obtain ⟨k, s1, e1, k0, k1, _, h1⟩ := pick_is (m := 198) h (n := 8) (by decide)
  have k1 := k1 (by decide)
  rw [e1]
  simp only [Option.bind_some]
  obtain ⟨y, hy, hq⟩ := while_post (step := spec_l27Entries_l1) (fun st => ∃ j : Nat, st.2.2.2 = (j : Int) ∧ j ≤ 7 ∧ SrcN (10 * j) st.1 ∧ st.2.1.length + j ≤ 7 ∧ 0 ≤ st.2.2.1 ∧ (∀ e, e ∈ st.2.1 → oneN e = true) ∧ sortedP 0 st.2.1 ∧ ∀ e', st.2.2.1 ≤ e'.Day → sortedP 0 (st.2.1 ++ [e']))
    (fun y => y.2.length ≤ 7 ∧ sortedP 0 y.2 ∧ ∀ e, e ∈ y.2 → oneN e = true) (fun st => st.2.2.2.toNat) (by
    rintro ⟨s, out, day, kk⟩ ⟨j, hj, hj7, hS, hl, hd, ho, hs, hn⟩
    simp only at hj hS hl hd ho hs hn
    subst hj
    by_cases h0 : j = 0
    · right
      subst h0
      exact ⟨(s, out), by simp [spec_l27Entries_l1], by show out.length ≤ 7; omega, hs, ho⟩
    · left
      obtain ⟨j', rfl⟩ : ∃ j', j = j' + 1 := ⟨j - 1, by omega⟩
      obtain ⟨e, s', he, hS'⟩ := drawEntry_is (m := 10 * j') (s := s) (by rw [show 10 * j' + 10 = 10 * (j' + 1) by omega]; exact hS) day
      have c1 : decide ((0 : Int) < ((j' + 1 : Nat) : Int)) = true := decide_eq_true (by omega)
      have w1 : IntKind.i64.wrap (((j' + 1 : Nat) : Int) - 1) = (j' : Int) := by rw [wrap_i64 (by omega) (by omega)]; omega
      by_cases hc : (oneN e && decide (day ≤ e.Day)) = true
      · refine ⟨(s', out ++ [e], e.Day, (j' : Int)), ?_, ⟨j', rfl, by omega, hS', by simp; omega, ?_, ?_, ?_, ?_⟩, by simp⟩
        · simp only [spec_l27Entries_l1, c1, if_true, he, Option.bind_some, l27Ok_is, hc, w1]
          rw [appOk_of (by simp; omega), ck_true]
        · simp only [Bool.and_eq_true, decide_eq_true_eq] at hc
          show 0 ≤ e.Day
          omega
        · intro x hx
          rcases List.mem_append.1 hx with hx | hx
          · exact ho x hx
          · rw [List.mem_singleton.1 hx]
            simp only [Bool.and_eq_true] at hc
            exact hc.1
        · simp only [Bool.and_eq_true, decide_eq_true_eq] at hc
          exact hn e hc.2
        · intro e' he'
          simp only [Bool.and_eq_true, decide_eq_true_eq] at hc
          exact sorted_snoc out 0 e e' (hn e hc.2) he'
      · refine ⟨(s', out, day, (j' : Int)), ?_, ⟨j', rfl, by omega, hS', by simp; omega, hd, ho, hs, hn⟩, by simp⟩
        have hc := Bool.eq_false_iff.2 hc
        simp only [spec_l27Entries_l1, c1, if_true, he, Option.bind_some, l27Ok_is, hc, w1, Bool.false_eq_true, if_false]) (s := (s1, ([] : List Entry), 0, k))
    ⟨k.toNat, by show k = _; omega, by omega, h1.le (by omega), by simp; omega, by show (0 : Int) ≤ 0; omega, fun e he => by simp at he, trivial, fun e' he' => show sortedP 0 [e'] from ⟨he', trivial⟩⟩
  rw [hy]
  exact ⟨y.2, y.1, rfl, hq.1, hq.2.1, hq.2.2⟩

theorem A2Entries_is {code : List UInt8} (hl : code.length ≤ 1099511627776) : ∃ es, spec_A2Entries code = some es ∧ es.length ≤ 7 ∧ sortedP 0 es ∧ ∀ e, e ∈ es → oneN e = true := by
  unfold spec_A2Entries
  obtain ⟨es, s', e1, h⟩ := entries_is (s := ⟨code, 0, 0⟩) ((srcN_from hl).le (by decide))
  rw [From_is]
  simp only [Option.bind_some, e1]
  exact ⟨es, rfl, h⟩

theorem sorted_get : ∀ (l : List Entry) (d : Int) (i : Nat), sortedP d l → i + 1 < l.length → (l.getD i default).Day ≤ (l.getD (i + 1) default).Day
  | [], _, _, _, hi => absurd hi (by simp)
  | [_], _, _, _, hi => absurd hi (by simp)
  | x :: y :: l, d, 0, h, _ => h.2.1
  | x :: y :: l, d, i + 1, h, hi => by
    have := sorted_get (y :: l) x.Day i h.2 (by simpa using hi)
    simpa only [List.getD_cons_succ] using this

end Go.Proofs.YtlcabohpeopdcaaGreatDoor

/- What typed forms say: LogOf of any list of entries, by the program and by the reference. No condition. -/
namespace Go.Proofs.YtlcabohpeopdcaaGreatDoor
open Go Go.RowKit
set_option linter.unusedSimpArgs false
set_option linter.unusedVariables false

/-- The days do not fall. -/
def upB (l : List Entry) : Bool := (List.range (l.length - 1)).all fun i => !decide ((l.getD (i + 1) default).Day < (l.getD i default).Day)

def logB (l : List Entry) : Bool := l.all oneN

noncomputable def logR (l : List Entry) : List UInt8 × Int :=
  if logB l = false then ([], 7) else if upB l = false then ([], 6) else if 4000 < (makeP 0 l).length then ([], 5) else (makeP 0 l, 0)

theorem implBad_is {l : List Entry} (hl : l.length ≤ 1048576) : slices_ContainsFunc_impl_Entry_impl_Entry__impl_LogOf_c1 l = some (!logB l) := by
  unfold slices_ContainsFunc_impl_Entry_impl_Entry__impl_LogOf_c1 slices_IndexFunc_impl_Entry_impl_Entry__impl_LogOf_c1
  rw [while_find (step := slices_IndexFunc_impl_Entry_impl_Entry__impl_LogOf_c1_l1 l (l.length : Int)) (fun i => !oneN (l.getD i default)) (fun i => (i : Int)) l.length (fun i hi => by
    simp only [slices_IndexFunc_impl_Entry_impl_Entry__impl_LogOf_c1_l1, impl_LogOf_c1, Int.ofNat_lt, hi, decide_true, if_true, ixOk_nat, ck_true, Int.toNat_natCast, ValidEntry_is, Option.bind_some, wrap_nat1 (show i < 9223372036854775807 by omega)]
    cases oneN (l.getD i default) <;> rfl) (by simp [slices_IndexFunc_impl_Entry_impl_Entry__impl_LogOf_c1_l1])]
  have hf := find_any l (fun x => !oneN x)
  have hn : (!logB l) = l.any (fun x => !oneN x) := by unfold logB; simp [List.any_eq_not_all_not]
  rw [hn, ← hf]
  simp only [Option.bind_some]
  cases hc : (List.range l.length).find? (fun i => !oneN (l.getD i default)) with
  | none => simp
  | some j =>
    have : (0 : Int) ≤ (j : Int) := by omega
    simp [this]

theorem upB_is (l : List Entry) : impl_LogOf_d l = !upB l := by
  unfold impl_LogOf_d upB
  rw [List.any_eq_not_all_not]

theorem implLog_loop : ∀ (es : List Entry) (acc : List UInt8) (last : Int), (∀ e, e ∈ es → oneN e = true) → 0 ≤ last → last ≤ 65520 → acc.length ≤ 4000 →
    impl_LogOf_l acc last es = some (if 4000 < (acc ++ makeP last es).length then none else some (acc ++ makeP last es))
  | [], acc, last, _, _, _, ha => by
    have : ¬ 4000 < (acc ++ makeP last []).length := by simp only [makeP, List.append_nil]; omega
    rw [if_neg this]
    simp [impl_LogOf_l, makeP]
  | e :: es, acc, last, ho, h0, h1, ha => by
    have hone := ho e (by simp)
    obtain ⟨_, e1, s0, s1⟩ := stampF_is hone h0 h1
    have hl2 := lineT_len hone s0 s1
    have hl3 : (((wordsN e ++ [32]) ++ Lib.itoa (stampF last e)) ++ [10]).length ≤ 101 := by
      have := hl2.2; simp only [lineT] at this; simp only [List.length_append, List.length_singleton] at this ⊢; omega
    have hk : decide (acc.length + (((wordsN e ++ [32]) ++ Lib.itoa (stampF last e)) ++ [10]).length ≤ 140737488355328) = true := decide_eq_true (by omega)
    have hm : acc ++ makeP last (e :: es) = (acc ++ (((wordsN e ++ [32]) ++ Lib.itoa (stampF last e)) ++ [10])) ++ makeP (stampF last e) es := by simp [makeP, lineT]
    rw [impl_LogOf_l, e1]
    simp only [Option.bind_some, lineOf_is hone s0 s1, hk, ck_true, hm]
    by_cases hc : 4000 < acc.length + (((wordsN e ++ [32]) ++ Lib.itoa (stampF last e)) ++ [10]).length
    · have h4 : 4000 < ((acc ++ (((wordsN e ++ [32]) ++ Lib.itoa (stampF last e)) ++ [10])) ++ makeP (stampF last e) es).length := by
        rw [List.length_append, List.length_append]; omega
      rw [if_pos (decide_eq_true hc), if_pos h4]
    · rw [if_neg (by simpa using hc), implLog_loop es _ _ (fun x hx => ho x (by simp [hx])) s0 s1 (by rw [List.length_append]; omega)]

theorem logB_mem {l : List Entry} (h : logB l = true) : ∀ e, e ∈ l → oneN e = true := fun e he => List.all_eq_true.1 h e he

theorem implLogOf_is {l : List Entry} (hl : l.length ≤ 1048576) : impl_LogOf l = some (logR l) := by
  have hk : decide (l.length ≤ 1099511627776) = true := decide_eq_true (by omega)
  unfold impl_LogOf logR
  rw [hk, ck_true, implBad_is hl, upB_is]
  simp only [Option.bind_some]
  cases hb : logB l
  · simp
  · cases hu : upB l
    · simp
    · simp only [Bool.not_true, Bool.false_eq_true, if_false, implLog_loop l [] 0 (logB_mem hb) (by omega) (by omega) (by simp), Option.bind_some, List.nil_append]
      by_cases hc : 4000 < (makeP 0 l).length
      · simp only [hc, if_true]; rfl
      · simp only [hc, if_false]; rfl

end Go.Proofs.YtlcabohpeopdcaaGreatDoor

