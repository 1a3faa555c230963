/- What typed forms say: the log of entries is made, by the program and by the reference. No condition. -/
import Derived.Test.YtaeefegkmachmaaDoorHStamp
namespace Go.Proofs.YtaeefegkmachmaaDoor
open Go Go.RowKit
set_option linter.unusedSimpArgs false
set_option linter.unusedVariables false

noncomputable def stampF (last : Int) (e : Entry) : Int := (impl_stamp last e).getD 0


theorem stampF_is {e : Entry} (h : oneN e = true) {n : Int} (h0 : 0 ≤ n) (h1 : n ≤ 65520) : spec_l27Stamp n (wordsN e) = some (stampF n e) ∧ impl_stamp n e = some (stampF n e) ∧ 0 ≤ stampF n e ∧ stampF n e ≤ 65520 := by
  obtain ⟨s, h2, h3, h4, h5⟩ := stamp_is h h0 h1
  have : stampF n e = s := by unfold stampF; rw [h3]; rfl
  rw [this]
  exact ⟨h2, h3, h4, h5⟩


theorem l27Line_is {e : Entry} (h : oneN e = true) {n : Int} (h0 : 0 ≤ n) (h1 : n ≤ 65520) : spec_l27Line n e = some (((wordsN e ++ [32]) ++ Lib.itoa n) ++ [10]) := by
  have l1 := words_len h
  have l2 := itoa_len (n := n) ⟨by omega, by omega⟩
  unfold spec_l27Line
  rw [l27Words_is h, l01Dec_is (n := n) ⟨by omega, by omega⟩]
  simp only [Option.bind_some]
  rw [catOk_of (by simp; omega), ck_true, catOk_of (by simp; omega), ck_true, catOk_of (by simp; omega), ck_true]


theorem lineOf_is {e : Entry} (h : oneN e = true) {n : Int} (h0 : 0 ≤ n) (h1 : n ≤ 65520) : impl_lineOf e n = some (((wordsN e ++ [32]) ++ Lib.itoa n) ++ [10]) := by
  have l1 := words_len h
  have l2 := itoa_len (n := n) ⟨by omega, by omega⟩
  unfold impl_lineOf
  rw [words_is h, Decimal_is (n := n) ⟨by omega, by omega⟩]
  simp only [Option.bind_some]
  rw [catOk_of (by simp; omega), ck_true, catOk_of (by simp; omega), ck_true, catOk_of (by simp; omega), ck_true]


def lineT (st : Int) (e : Entry) : List UInt8 := (wordsN e ++ [32]) ++ Lib.itoa st


noncomputable def makeP : Int → List Entry → List UInt8
  | _, [] => []
  | last, e :: es => lineT (stampF last e) e ++ 10 :: makeP (stampF last e) es


theorem lineT_len {e : Entry} (h : oneN e = true) {st : Int} (h0 : 0 ≤ st) (h1 : st ≤ 65520) : 1 ≤ (lineT st e).length ∧ (lineT st e).length ≤ 100 := by
  have l1 := words_len h
  have l2 := itoa_len (n := st) ⟨by omega, by omega⟩
  simp only [lineT, List.length_append, List.length_singleton]
  omega


theorem makeP_len : ∀ (es : List Entry) (last : Int), (∀ e, e ∈ es → oneN e = true) → 0 ≤ last → last ≤ 65520 → es.length ≤ (makeP last es).length ∧ (makeP last es).length ≤ 101 * es.length
  | [], _, _, _, _ => ⟨Nat.le_refl _, by simp [makeP]⟩
  | e :: es, last, ho, h0, h1 => by
    have hone := ho e (by simp)
    obtain ⟨_, _, s0, s1⟩ := stampF_is hone h0 h1
    have ih := makeP_len es (stampF last e) (fun x hx => ho x (by simp [hx])) s0 s1
    have hl := lineT_len hone s0 s1
    simp only [makeP, List.length_append, List.length_cons]
    omega


theorem make_loop {es : List Entry} (hl : es.length ≤ 1048576) (ho : ∀ e, e ∈ es → oneN e = true) :
    ∀ (k i : Nat) (out : List UInt8) (last : Int), i + k = es.length → out.length ≤ 101 * i → 0 ≤ last → last ≤ 65520 → whileE (spec_l27Make_l1 es) (out, last, (i : Int)) = some (out ++ makeP last (es.drop i))
  | 0, i, out, last, hk, _, _, _ => by
    have hie : i = es.length := by omega
    subst hie
    rw [List.drop_length]
    exact whileE_done (by simp [spec_l27Make_l1, makeP])
  | k + 1, i, out, last, hk, hout, h0, h1 => by
    have hi : i < es.length := by omega
    have hmem : es.getD i default ∈ es := by rw [getD_lt hi]; exact List.getElem_mem hi
    have hone := ho _ hmem
    obtain ⟨e1, _, s0, s1⟩ := stampF_is hone h0 h1
    have hl2 := lineT_len hone s0 s1
    have hd : es.drop i = es.getD i default :: es.drop (i + 1) := by rw [getD_lt hi]; exact List.drop_eq_getElem_cons hi
    have hstep : spec_l27Make_l1 es (out, last, (i : Int)) = some (.inl (out ++ (lineT (stampF last (es.getD i default)) (es.getD i default) ++ [10]), stampF last (es.getD i default), ((i + 1 : Nat) : Int))) := by
      simp only [spec_l27Make_l1, Int.ofNat_lt, hi, decide_true, if_true, ixOk_nat, ck_true, Int.toNat_natCast, wrap_nat1 (show i < 9223372036854775807 by omega), l27Words_is hone, Option.bind_some, e1, l27Line_is hone s0 s1]
      rw [appOk_of (by have := hl2.2; simp only [lineT] at this; simp only [List.length_append, List.length_singleton] at this ⊢; omega), ck_true]
      rfl
    rw [whileE_next hstep, make_loop hl ho k (i + 1) _ _ (by omega) (by simp only [List.length_append, List.length_singleton]; omega) s0 s1, hd]
    simp [makeP]


theorem l27Make_is {es : List Entry} (hl : es.length ≤ 1048576) (ho : ∀ e, e ∈ es → oneN e = true) : spec_l27Make es = some (makeP 0 es) := by
  unfold spec_l27Make
  have := make_loop hl ho es.length 0 [] 0 (by omega) (by simp) (by omega) (by omega)
  rw [show whileE (spec_l27Make_l1 es) ([], 0, 0) = _ from this]
  rfl

end Go.Proofs.YtaeefegkmachmaaDoor
