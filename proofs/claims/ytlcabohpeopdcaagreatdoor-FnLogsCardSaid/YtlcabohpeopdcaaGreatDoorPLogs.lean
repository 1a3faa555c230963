/- The plain law of FnLogs. No condition. -/
import Derived.Test.YtlcabohpeopdcaaGreatDoorHPB
import Derived.Test.YtlcabohpeopdcaaGreatDoorHPC
namespace Go.Proofs.YtlcabohpeopdcaaGreatDoor
open Go Go.RowKit
set_option linter.unusedSimpArgs false
set_option linter.unusedVariables false

theorem cut_take {α : Type} (l : List α) (n : Nat) : cut l 0 (n : Int) = l.take n := by simp [cut]

theorem a2At_is (more : List UInt8) (k : Nat) : ∃ n : Nat, laws_a2At more (k : Int) 256 = some (n : Int) ∧ n ≤ 255 := by
  unfold laws_a2At
  by_cases h : more.length ≤ k
  · have e : decide ((more.length : Int) ≤ (k : Int)) = true := decide_eq_true (by omega)
    rw [e]
    exact ⟨0, rfl, by omega⟩
  · have e : decide ((more.length : Int) ≤ (k : Int)) = false := decide_eq_false (by omega)
    have hb := (more.getD k default).toNat_lt
    rw [e]
    simp only [Bool.false_or, show decide ((256 : Int) < 1) = false from rfl, Bool.false_eq_true, if_false, ixOk_nat, show decide (k < more.length) = true from decide_eq_true (by omega), ck_true, nz_of (show (256 : Int) ≠ 0 by decide), Int.toNat_natCast]
    refine ⟨(more.getD k default).toNat, ?_, by omega⟩
    rw [Int.tmod_eq_of_lt (by omega) (by omega)]

theorem sorted_take : ∀ (l : List Entry) (d : Int) (i : Nat), sortedP d l → sortedP d (l.take i)
  | [], _, _, _ => by simp [sortedP]
  | x :: l, d, 0, _ => trivial
  | x :: l, d, i + 1, h => ⟨h.1, sorted_take l x.Day i h.2⟩

theorem day_take {l : List Entry} {i : Nat} (hs : sortedP 0 l) (hi : i < l.length) : dayOf (l.take i) ≤ (l.getD i default).Day := by
  unfold dayOf
  have hl : (l.take i).length = i := by simp; omega
  rw [hl]
  cases i with
  | zero =>
    rw [if_pos rfl]
    cases l with
    | nil => simp at hi
    | cons x l => exact hs.1
  | succ i =>
    rw [if_neg (by omega)]
    have := sorted_get l 0 i hs hi
    have e : (l.take (i + 1)).getD (i + 1 - 1) default = l.getD i default := by
      simp only [Nat.add_sub_cancel, List.getD_eq_getElem?_getD, List.getElem?_take]
      rw [if_pos (by omega)]
    rw [e]; exact this

theorem upB_sorted {l : List Entry} (hs : sortedP 0 l) : upB l = true := by
  unfold upB
  rw [List.all_eq_true]
  intro i hi
  have hi := List.mem_range.1 hi
  have := sorted_get l 0 i hs (by omega)
  have : decide ((l.getD (i + 1) default).Day < (l.getD i default).Day) = false := decide_eq_false (by omega)
  rw [this]; rfl

theorem ents_eq (a b : Entry) (h : a = b) : ((a.Day == b.Day) && ((a.What == b.What) && (a.Value == b.Value))) = true := by subst h; simp

theorem law_Logs {code more : List UInt8} (w : code.length ≤ maxLen) (w2 : more.length ≤ maxLen) : laws_FnLogs code more = some true := by
  unfold laws_FnLogs laws_a2Long
  simp only [Option.bind_some]
  by_cases h : 3000 < code.length
  · have e : decide ((3000 : Int) < (code.length : Int)) = true := decide_eq_true (by omega)
    simp only [e, Bool.true_or, if_true]
  by_cases h' : 3000 < more.length
  · have e : decide ((3000 : Int) < (more.length : Int)) = true := decide_eq_true (by omega)
    simp only [e, Bool.or_true, if_true]
  have e1 : decide ((3000 : Int) < (code.length : Int)) = false := decide_eq_false (by omega)
  have e2 : decide ((3000 : Int) < (more.length : Int)) = false := decide_eq_false (by omega)
  have hcl : code.length ≤ 1099511627776 := by omega
  simp only [e1, e2, Bool.or_self, Bool.false_eq_true, if_false]
  clear e1 e2
  obtain ⟨es, he, hl7, hs, ho⟩ := A2Entries_is (code := code) hcl
  have hR : logR es = (makeP 0 es, 0) := by
    have hlen := makeP_len es 0 ho (by omega) (by omega)
    unfold logR
    have h1 : logB es = true := by unfold logB; exact List.all_eq_true.2 ho
    rw [h1, upB_sorted hs]
    simp only [Bool.true_eq_false, if_false]
    rw [if_neg (by omega)]
  have hlen := makeP_len es 0 ho (by omega) (by omega)
  obtain ⟨p1, p2, p3⟩ := logP_make hs ho
  have hcode : codeP (makeP 0 es) = 0 := by unfold codeP; rw [if_neg (by omega), if_pos p2]
  obtain ⟨back, e2, h1, _⟩ := EntriesOf_is (log := makeP 0 es) (by omega)
  obtain rfl := h1 hcode
  rw [he]
  simp only [Option.bind_some, implLogOf_is (show es.length ≤ 1048576 by omega), hR, e2, hcode, p1, beq_self_eq_true, Bool.not_true, Bool.or_self, Bool.false_eq_true, if_false]
  have hloop : whileE (laws_FnLogs_l1 more es (makeP 0 es) es) ([], 0) = some (.inl (makeP 0 es)) := by
    have h0 : makeP 0 (es.take 0) = [] := by simp [makeP]
    have := while_up (step := laws_FnLogs_l1 more es (makeP 0 es) es) (fun i => makeP 0 (es.take i)) es.length (r := .inl (makeP 0 es)) (fun i hi => by
      have hm := getD_mem hi default
      have hsn : es.take (i + 1) = es.take i ++ [es.getD i default] := by rw [List.take_succ_eq_append_getElem hi, getD_lt hi]
      have hap : makeP 0 es = makeP 0 (es.take (i + 1)) ++ makeP (lastP 0 (es.take (i + 1))) (es.drop (i + 1)) := by rw [← makeP_append, List.take_append_drop]
      have hle : (makeP 0 (es.take (i + 1))).length ≤ (makeP 0 es).length := by rw [hap]; simp
      have hA := AddEntry_next (es := es.take i) (e := es.getD i default) (sorted_take es 0 i hs) (fun x hx => ho x (List.mem_of_mem_take hx)) (ho _ hm) (day_take hs hi) (by rw [← hsn]; omega)
      rw [← hsn] at hA
      have hc : cut (makeP 0 es) 0 ((makeP 0 (es.take (i + 1))).length : Int) = makeP 0 (es.take (i + 1)) := by
        rw [cut_take, hap]
        exact List.take_left
      have hd : decide ((makeP 0 es).length < (makeP 0 (es.take (i + 1))).length) = false := decide_eq_false (by omega)
      simp only [laws_FnLogs_l1, Int.ofNat_lt, hi, decide_true, if_true, ixOk_nat, ck_true, Int.toNat_natCast, beq_self_eq_true, Bool.and_self, Bool.not_true, Bool.false_eq_true, if_false, hA, Option.bind_some, Bool.or_self, Bool.false_or, Bool.or_false, hd, cutOk_of (Int.le_refl 0) (Int.natCast_nonneg _) (Int.ofNat_le.2 hle), Bool.or_true, hc, wrap_nat1 (show i < 9223372036854775807 by omega)]) (by
      simp only [laws_FnLogs_l1, Int.lt_irrefl, decide_false, Bool.false_eq_true, if_false, List.take_length])
    rw [h0] at this
    exact this
  obtain ⟨n0, a0, b0⟩ := a2At_is more 0
  obtain ⟨n1, a1, b1⟩ := a2At_is more 1
  have a0 : laws_a2At more 0 256 = some (n0 : Int) := a0
  have a1 : laws_a2At more 1 256 = some (n1 : Int) := a1
  obtain ⟨c, hc⟩ : ∃ c : Nat, (if ((makeP 0 es).length : Int) < (IntKind.i64.wrap ((n0 : Int) + (n1 : Int))) then ((makeP 0 es).length : Int) else (IntKind.i64.wrap ((n0 : Int) + (n1 : Int)))) = (c : Int) ∧ c ≤ (makeP 0 es).length := by
    rw [wrap_i64 (by omega) (by omega)]
    split
    · exact ⟨_, rfl, Nat.le_refl _⟩
    · exact ⟨n0 + n1, by omega, by omega⟩
  obtain ⟨hc, hcl⟩ := hc
  have hpl : ((makeP 0 es).take c).length = c := by simp; omega
  have hi := (logP_inv ((makeP 0 es).take c)).at_
  rw [hpl] at hi
  have hCk : impl_CheckLog ((makeP 0 es).take c) = some (((logP ((makeP 0 es).take c)).2.1 : Int), 0) := by
    unfold impl_CheckLog
    have e : decide ((4000 : Int) < (((makeP 0 es).take c).length : Int)) = false := decide_eq_false (by omega)
    rw [e]
    simp only [Bool.false_eq_true, if_false, readLog_is (log := (makeP 0 es).take c) (by omega), Option.bind_some]
  have hRc : impl_RecoverLog ((makeP 0 es).take c) = some (((makeP 0 es).take c).take (logP ((makeP 0 es).take c)).2.1, (c : Int) - ((logP ((makeP 0 es).take c)).2.1 : Int), 0) := by
    unfold impl_RecoverLog
    rw [hCk]
    simp only [Option.bind_some, beq_self_eq_true, Bool.not_true, Bool.false_eq_true, if_false]
    rw [cutOk_of (by omega) (by omega) (by omega), ck_true, cut_take, hpl, wrap_i64 (by omega) (by omega)]
  have hself := code_self (log := (makeP 0 es).take c) (by omega)
  have hpre := logP_cut (makeP 0 es) c
  rw [p1] at hpre
  have hEn : spec_EntriesOf (((makeP 0 es).take c).take (logP ((makeP 0 es).take c)).2.1) = some ((logP ((makeP 0 es).take c)).1, 0) := by
    unfold spec_EntriesOf
    obtain ⟨r, e1, hr⟩ := l27Code_is (log := ((makeP 0 es).take c).take (logP ((makeP 0 es).take c)).2.1) (by simp; omega)
    rw [e1, hself]
    obtain rfl := hr hself
    simp only [Option.bind_some, beq_self_eq_true, Bool.not_true, Bool.false_eq_true, if_false]
    rw [logP_self]; rfl
  have hkl : (((makeP 0 es).take c).take (logP ((makeP 0 es).take c)).2.1).length = (logP ((makeP 0 es).take c)).2.1 := by rw [List.length_take, hpl]; omega
  have hcc : ((makeP 0 es).take c).take (logP ((makeP 0 es).take c)).2.1 = (makeP 0 es).take (logP ((makeP 0 es).take c)).2.1 := by rw [List.take_take, Nat.min_eq_left hi]
  rw [hloop]
  simp only [Option.bind_some, a0, a1, hc, cutOk_of (Int.le_refl 0) (Int.natCast_nonneg c) (Int.ofNat_le.2 hcl), ck_true, cut_take, hRc, hCk, beq_self_eq_true, Bool.not_true, Bool.or_self, hkl, Bool.false_or]
  have hd : decide ((c : Int) < ((logP ((makeP 0 es).take c)).2.1 : Int)) = false := decide_eq_false (by omega)
  have hd2 : decide (((logP ((makeP 0 es).take c)).1.length : Int) ≤ (es.length : Int)) = true := decide_eq_true (by have := hpre.length_le; omega)
  rw [wrap_i64 (by omega) (by omega)]
  simp only [hd, Bool.or_self, Bool.not_false, Bool.not_true, Bool.false_or, cutOk_of (Int.le_refl 0) (Int.natCast_nonneg (logP ((makeP 0 es).take c)).2.1) (Int.ofNat_le.2 (Nat.le_trans hi hcl)), ck_true, hcc, beq_self_eq_true, Bool.false_eq_true, if_false]
  rw [← hcc, hEn]
  simp only [Option.bind_some, beq_self_eq_true, hd2, Bool.and_self]

end Go.Proofs.YtlcabohpeopdcaaGreatDoor
