/- What typed forms say: LogOf of any list of entries, by the program and by the reference. No condition. -/
import Derived.Test.YtaeefegkmachmaaDoorHMake
import Derived.Test.YtaeefegkmachmaaDoorHUtil
namespace Go.Proofs.YtaeefegkmachmaaDoor
open Go Go.RowKit
set_option linter.unusedSimpArgs false
set_option linter.unusedVariables false

/-- The days do not fall. -/
def upB (l : List Entry) : Bool := (List.range (l.length - 1)).all fun i => !decide ((l.getD (i + 1) default).Day < (l.getD i default).Day)

def logB (l : List Entry) : Bool := l.all oneN

noncomputable def logR (l : List Entry) : List UInt8 × Int :=
  if logB l = false then ([], 7) else if upB l = false then ([], 6) else if 4000 < (makeP 0 l).length then ([], 5) else (makeP 0 l, 0)

theorem implBad_is {l : List Entry} (hl : l.length ≤ 1048576) : slices_ContainsFunc_impl_Entry_impl_Entry__impl_LogOf_c1 l = some (!logB l) := by
  unfold slices_ContainsFunc_impl_Entry_impl_Entry__impl_LogOf_c1 slices_IndexFunc_impl_Entry_impl_Entry__impl_LogOf_c1
  rw [while_find (step := slices_IndexFunc_impl_Entry_impl_Entry__impl_LogOf_c1_l1 l (l.length : Int)) (fun i => !oneN (l.getD i default)) (fun i => (i : Int)) l.length (fun i hi => by
    simp only [slices_IndexFunc_impl_Entry_impl_Entry__impl_LogOf_c1_l1, impl_LogOf_c1, Int.ofNat_lt, hi, decide_true, if_true, ixOk_nat, ck_true, Int.toNat_natCast, ValidEntry_is, Option.bind_some, wrap_nat1 (show i < 9223372036854775807 by omega)]
    cases oneN (l.getD i default) <;> rfl) (by simp [slices_IndexFunc_impl_Entry_impl_Entry__impl_LogOf_c1_l1])]
  have hf := find_any l (fun x => !oneN x)
  have hn : (!logB l) = l.any (fun x => !oneN x) := by unfold logB; simp [List.any_eq_not_all_not]
  rw [hn, ← hf]
  simp only [Option.bind_some]
  cases hc : (List.range l.length).find? (fun i => !oneN (l.getD i default)) with
  | none => simp
  | some j =>
    have : (0 : Int) ≤ (j : Int) := by omega
    simp [this]

theorem upB_is (l : List Entry) : impl_LogOf_d l = !upB l := by
  unfold impl_LogOf_d upB
  rw [List.any_eq_not_all_not]

theorem implLog_loop : ∀ (es : List Entry) (acc : List UInt8) (last : Int), (∀ e, e ∈ es → oneN e = true) → 0 ≤ last → last ≤ 65520 → acc.length ≤ 4000 →
    impl_LogOf_l acc last es = some (if 4000 < (acc ++ makeP last es).length then none else some (acc ++ makeP last es))
  | [], acc, last, _, _, _, ha => by
    have : ¬ 4000 < (acc ++ makeP last []).length := by simp only [makeP, List.append_nil]; omega
    rw [if_neg this]
    simp [impl_LogOf_l, makeP]
  | e :: es, acc, last, ho, h0, h1, ha => by
    have hone := ho e (by simp)
    obtain ⟨_, e1, s0, s1⟩ := stampF_is hone h0 h1
    have hl2 := lineT_len hone s0 s1
    have hl3 : (((wordsN e ++ [32]) ++ Lib.itoa (stampF last e)) ++ [10]).length ≤ 101 := by
      have := hl2.2; simp only [lineT] at this; simp only [List.length_append, List.length_singleton] at this ⊢; omega
    have hk : decide (acc.length + (((wordsN e ++ [32]) ++ Lib.itoa (stampF last e)) ++ [10]).length ≤ 140737488355328) = true := decide_eq_true (by omega)
    have hm : acc ++ makeP last (e :: es) = (acc ++ (((wordsN e ++ [32]) ++ Lib.itoa (stampF last e)) ++ [10])) ++ makeP (stampF last e) es := by simp [makeP, lineT]
    rw [impl_LogOf_l, e1]
    simp only [Option.bind_some, lineOf_is hone s0 s1, hk, ck_true, hm]
    by_cases hc : 4000 < acc.length + (((wordsN e ++ [32]) ++ Lib.itoa (stampF last e)) ++ [10]).length
    · have h4 : 4000 < ((acc ++ (((wordsN e ++ [32]) ++ Lib.itoa (stampF last e)) ++ [10])) ++ makeP (stampF last e) es).length := by
        rw [List.length_append, List.length_append]; omega
      rw [if_pos (decide_eq_true hc), if_pos h4]
    · rw [if_neg (by simpa using hc), implLog_loop es _ _ (fun x hx => ho x (by simp [hx])) s0 s1 (by rw [List.length_append]; omega)]

theorem logB_mem {l : List Entry} (h : logB l = true) : ∀ e, e ∈ l → oneN e = true := fun e he => List.all_eq_true.1 h e he

theorem implLogOf_is {l : List Entry} (hl : l.length ≤ 1048576) : impl_LogOf l = some (logR l) := by
  have hk : decide (l.length ≤ 1099511627776) = true := decide_eq_true (by omega)
  unfold impl_LogOf logR
  rw [hk, ck_true, implBad_is hl, upB_is]
  simp only [Option.bind_some]
  cases hb : logB l
  · simp
  · cases hu : upB l
    · simp
    · simp only [Bool.not_true, Bool.false_eq_true, if_false, implLog_loop l [] 0 (logB_mem hb) (by omega) (by omega) (by simp), Option.bind_some, List.nil_append]
      by_cases hc : 4000 < (makeP 0 l).length
      · simp only [hc, if_true]; rfl
      · simp only [hc, if_false]; rfl

theorem specLogOf_is {l : List Entry} (hl : l.length ≤ 1048576) : spec_LogOf l = some (logR l) := by
  unfold spec_LogOf logR
  rw [while_all (step := spec_LogOf_l1 l) (fun i => oneN (l.getD i default)) l.length (logB l) (yes := .inl ()) (no := .inr ([], 7))
    (by
      unfold logB
      rw [List.all_eq_true]
      constructor
      · exact fun h i hi => h _ (getD_mem hi default)
      · intro h x hx
        obtain ⟨i, hi, rfl⟩ := List.getElem_of_mem hx
        have := h i hi
        rwa [getD_lt hi] at this)
    (fun i hi => by
      simp only [spec_LogOf_l1, Int.ofNat_lt, hi, decide_true, if_true, ixOk_nat, ck_true, Int.toNat_natCast, l27Ok_is, Option.bind_some, wrap_nat1 (show i < 9223372036854775807 by omega)]
      cases oneN (l.getD i default) <;> rfl) (by simp [spec_LogOf_l1])]
  cases hb : logB l
  · simp
  · simp only [if_true, Option.bind_some]
    have l2 : whileE (spec_LogOf_l2 l) 1 = some (if upB l = true then .inl () else .inr ([], 6)) := by
      by_cases h0 : l.length ≤ 1
      · have hu : upB l = true := by unfold upB; rw [show l.length - 1 = 0 by omega]; rfl
        rw [hu, if_pos rfl]
        refine whileE_done ?_
        have c : decide ((1 : Int) < (l.length : Int)) = false := decide_eq_false (by omega)
        simp only [spec_LogOf_l2, c, Bool.false_eq_true, if_false]
      · have := while_all (step := fun i => (spec_LogOf_l2 l (i + 1)).map fun o => match o with | .inl j => .inl (j - 1) | .inr r => .inr r) (fun i => !decide ((l.getD (i + 1) default).Day < (l.getD i default).Day)) (l.length - 1) (upB l) (yes := .inl ()) (no := .inr ([], 6))
          (by
            unfold upB
            rw [List.all_eq_true]
            exact ⟨fun h i hi => h i (List.mem_range.2 hi), fun h i hi => h i (List.mem_range.1 hi)⟩)
          (fun i hi => by
            have hi' : i + 1 < l.length := by omega
            have w : IntKind.i64.wrap (((i + 1 : Nat) : Int) - 1) = (i : Int) := by rw [wrap_i64 (by omega) (by omega)]; omega
            rw [show ((i : Int) + 1) = ((i + 1 : Nat) : Int) by omega]
            simp only [spec_LogOf_l2, Int.ofNat_lt, hi', decide_true, if_true, ixOk_nat, ck_true, Int.toNat_natCast, w, wrap_nat1 (show i + 1 < 9223372036854775807 by omega), show i < l.length by omega]
            cases decide ((l.getD (i + 1) default).Day < (l.getD i default).Day)
            · simp
            · rfl) (by
            have c : decide ((((l.length - 1 : Nat) : Int) + 1) < (l.length : Int)) = false := decide_eq_false (by omega)
            simp only [spec_LogOf_l2, c, Bool.false_eq_true, if_false, Option.map_some])
        have h2 := while_sim (step' := spec_LogOf_l2 l) (fun i => i + 1) id (fun _ => True) (fun s _ => by
          cases spec_LogOf_l2 l (s + 1) with
          | none => rfl
          | some o => cases o <;> simp) (fun _ _ _ _ => trivial) trivial this
        exact h2
    rw [l2]
    cases hu : upB l
    · simp
    · simp only [if_true, Option.bind_some, l27Make_is hl (logB_mem hb)]
      by_cases hc : 4000 < (makeP 0 l).length
      · have : decide ((4000 : Int) < ((makeP 0 l).length : Int)) = true := decide_eq_true (by omega)
        simp [hc, this]
      · have : decide ((4000 : Int) < ((makeP 0 l).length : Int)) = false := decide_eq_false (by omega)
        simp [hc, this]

end Go.Proofs.YtaeefegkmachmaaDoor
