/- What typed forms say: packed light curves are unpacked again, and what is unpacked is packed again. No condition. -/
import Derived.Test.YtpjpfdoaemoddaaGreatHPackR
namespace Go.Proofs.YtpjpfdoaemoddaaGreat
open Go Go.RowKit
set_option linter.unusedSimpArgs false
set_option linter.unusedVariables false

theorem packC_back {l : List Point} (hg : goodP l = true) (hl : l.length ≤ 100) :
    ∀ (d i : Nat) (time mag : Int), i + d = l.length → time = (if i = 0 then 0 else (l.getD (i - 1) default).Time) → mag = (if i = 0 then 0 else (l.getD (i - 1) default).Mag) →
    ∃ q : List UInt8, q.length ≤ 10 * d ∧ (∀ b : List UInt8, b.length + q.length ≤ 100000 → whileE (impl_PackCurve_l1 l (l.length : Int)) (b, time, mag, (i : Int)) = some (b ++ q)) ∧
      ∀ (B suf : List UInt8) (out : List Point), out.length = i → whileE (impl_UnpackCurve_l1 B (l.length : Int)) (⟨q ++ suf, false⟩, out, time, mag, (i : Int)) = some (⟨suf, false⟩, out ++ l.drop i)
  | 0, i, time, mag, hd, _, _ => by
    have hlt : ¬ i < l.length := by omega
    have hi : i = l.length := by omega
    refine ⟨[], by simp, fun b _ => ?_, fun B suf out _ => ?_⟩
    · rw [List.append_nil]; exact whileE_done (by simp [impl_PackCurve_l1, hlt])
    · refine whileE_done ?_
      simp [impl_UnpackCurve_l1, hlt]
      omega
  | d + 1, i, time, mag, hd, ht, hm => by
    have hlt : i < l.length := by omega
    obtain ⟨g1, g2, g3, g4, g5⟩ := goodP_at hg hlt
    have time0 : 0 ≤ (l.getD i default).Time - time ∧ (l.getD i default).Time - time ≤ 10000000 ∧ 0 ≤ time := by
      rw [ht]
      split
      · omega
      · obtain ⟨r1, r2, _⟩ := goodP_at hg (show i - 1 < l.length by omega)
        have := g5 (by omega); omega
    have mag0 : -22000 ≤ (l.getD i default).Mag - mag ∧ (l.getD i default).Mag - mag ≤ 22000 ∧ -2000 ≤ mag ∧ mag ≤ 20000 := by
      rw [hm]
      split
      · omega
      · obtain ⟨_, _, r3, r4, _⟩ := goodP_at hg (show i - 1 < l.length by omega)
        omega
    obtain ⟨_, d2⟩ := fold_is (n := (l.getD i default).Mag - mag) (by omega) (by omega)
    have hfu := unfold_foldN (n := (l.getD i default).Mag - mag) (by omega) (by omega)
    have hfn : 0 ≤ foldN ((l.getD i default).Mag - mag) ∧ foldN ((l.getD i default).Mag - mag) ≤ 44000 := by unfold foldN; split <;> omega
    obtain ⟨f, hf⟩ := Int.eq_ofNat_of_zero_le hfn.1
    obtain ⟨t, htt⟩ := Int.eq_ofNat_of_zero_le time0.1
    rw [hf] at d2 hfu hfn
    have w1 : IntKind.i64.wrap ((l.getD i default).Time - time) = (t : Int) := by rw [htt]; exact wrap_i64 (by omega) (by omega)
    have w2 : IntKind.i64.wrap ((l.getD i default).Mag - mag) = (l.getD i default).Mag - mag := wrap_i64 (by omega) (by omega)
    obtain ⟨q, hq, p1, p2⟩ := packC_back hg hl d (i + 1) (l.getD i default).Time (l.getD i default).Mag (by omega) (by simp) (by simp)
    have hdrop : l.drop i = l.getD i default :: l.drop (i + 1) := by rw [List.drop_eq_getElem_cons hlt, getD_lt hlt]
    have nt := numP_len 3 t (by omega)
    have nf := numP_len 2 f (by omega)
    refine ⟨numP t ++ (numP f ++ q), by simp only [List.length_append]; omega, fun b hb => ?_, fun B suf out ho => ?_⟩
    · simp only [List.length_append] at hb
      have hx := p1 (b ++ numP t ++ numP f) (by simp only [List.length_append]; omega)
      rw [whileE_next (s' := (b ++ numP t ++ numP f, (l.getD i default).Time, (l.getD i default).Mag, ((i + 1 : Nat) : Int))) (by
        simp only [impl_PackCurve_l1, Int.ofNat_lt, hlt, decide_true, if_true, ixOk_nat, ck_true, Int.toNat_natCast, wrap_nat1 (show i < 9223372036854775807 by omega), w1, w2, d2, Option.bind_some]
        rw [appNum (by omega) (by omega), Option.bind_some, appNum (by omega) (by simp only [List.length_append]; omega)]
        rfl), hx]
      simp only [List.append_assoc]
    · have hx := p2 B suf (out ++ [l.getD i default]) (by simp [ho])
      have u1 := unum (n := t) (most := 10000000) (by omega) (by omega) (numP f ++ (q ++ suf))
      have u4 := unum (n := f) (most := 44000) (by omega) (by omega) (q ++ suf)
      have y1 : IntKind.i64.wrap (time + (t : Int)) = (l.getD i default).Time := by rw [wrap_i64 (by omega) (by omega)]; omega
      have y2 : IntKind.i64.wrap (mag + ((l.getD i default).Mag - mag)) = (l.getD i default).Mag := by rw [wrap_i64 (by omega) (by omega)]; omega
      have e1 : (numP t ++ (numP f ++ q)) ++ suf = numP t ++ (numP f ++ (q ++ suf)) := by simp only [List.append_assoc]
      have hme : Point.mk (l.getD i default).Time (l.getD i default).Mag = l.getD i default := rfl
      rw [whileE_next (s' := (⟨q ++ suf, false⟩, out ++ [l.getD i default], (l.getD i default).Time, (l.getD i default).Mag, ((i + 1 : Nat) : Int))) (by
        simp only [impl_UnpackCurve_l1, Int.ofNat_lt, hlt, decide_true, if_true, e1, u1, u4, hfu, Option.bind_some, y1, y2, wrap_nat1 (show i < 9223372036854775807 by omega), hme]
        rw [appOk_of (by simp; omega), ck_true]), hx, hdrop]
      simp

theorem UnpackC_back {l : List Point} {p : List UInt8} (hl : l.length ≤ 1048576) (h : impl_PackCurve l = some (p, 0)) : impl_UnpackCurve p = some (l, 0) := by
  have hP := Curve_is hl
  cases hgc : (goodP l && decide (l.length ≤ 100))
  · rw [hgc] at hP
    simp only [Bool.false_eq_true, if_false] at hP
    rw [hP] at h; cases h
  · clear hP
    simp only [Bool.and_eq_true, decide_eq_true_eq] at hgc
    obtain ⟨hg, hc⟩ := hgc
    have z3 := numP_len 0 l.length (by omega)
    obtain ⟨q, hq, p1, p2⟩ := packC_back hg hc l.length 0 0 0 (by omega) rfl rfl
    have hbody : ∃ body : List UInt8, body = (67 : UInt8) :: (numP l.length ++ q) := ⟨_, rfl⟩
    obtain ⟨body, hbody⟩ := hbody
    have hbl : body.length ≤ 5000 := by rw [hbody]; simp only [List.length_cons, List.length_append]; omega
    obtain ⟨p', s1, s2, s3, s4, s5, s6⟩ := seal_is (b := body) (by rw [hbody]; simp) (by omega)
    have h' : impl_PackCurve l = some (p', 0) := by
      unfold impl_PackCurve impl_count_impl_Point
      rw [ValidCurve_is (by omega), hg]
      simp only [hc, decide_true, Bool.and_self, Option.bind_some, Bool.not_true, Bool.false_eq_true, if_false]
      rw [appNum (by omega) (by simp), Option.bind_some]
      have := p1 ([67] ++ numP l.length) (by simp only [List.length_append, List.length_cons, List.length_nil]; omega)
      rw [Int.ofNat_zero] at this
      rw [this, Option.bind_some]
      have e : ([67] ++ numP l.length) ++ q = body := by rw [hbody]; simp
      rw [e, s1]
      rfl
    have hpp : p' = p := by rw [h'] at h; cases h; rfl
    subst hpp
    unfold impl_UnpackCurve
    have hcheck : impl_checkPacked__impl_UnpackCurve_c1 p' = some 0 := s6 impl_UnpackCurve_c1 (by rw [hbody]; rfl)
    have hdr : body.drop 1 = numP l.length ++ q := by rw [hbody]; rfl
    rw [hcheck]
    simp only [Option.bind_some, beq_self_eq_true, Bool.not_true, Bool.false_eq_true, if_false, s5, ck_true, s4, hdr]
    rw [unum (by omega) (by omega), Option.bind_some]
    have := p2 p' [] [] rfl
    rw [List.append_nil, Int.ofNat_zero] at this
    simp only
    rw [this]
    simp only [List.nil_append, List.drop_zero, Option.bind_some, h', beq_self_eq_true, Bool.not_true, Bool.or_self, Bool.not_false, bytes_Equal, Option.isSome_some, Option.getD_some, Bool.or_true, ck_true, Bool.false_eq_true, if_false]

/-! ### What is unpacked is packed again -/

theorem while_out {σ ρ : Type} {step : σ → Option (σ ⊕ ρ)} {Q : ρ → Prop} (h : ∀ s r, step s = some (.inr r) → Q r) {s : σ} {r : ρ} (hw : whileE step s = some r) : Q r := by
  obtain ⟨n, hn⟩ := whileE_some hw
  induction n generalizing s with
  | zero => cases hn
  | succ n ih =>
    simp only [iterE] at hn
    cases hs : step s with
    | none => rw [hs] at hn; cases hn
    | some o =>
      rw [hs] at hn
      cases o with
      | inl s' => exact ih (whileE_of hn) hn
      | inr r' => cases hn; exact h s _ hs

theorem unpackE_out {b : List UInt8} {ss os : List Bs} {c : Int} {s : Unpacker × List Estimate × Int × Int × Int} {r : (Unpacker × List Estimate) ⊕ (List Estimate × Int)} (h : impl_UnpackEstimates_l1 b ss os c s = some (.inr r)) : ∀ x, r = .inr x → x.2 = 8 := by
  obtain ⟨u, list, time, mag, t⟩ := s
  intro x hx
  subst hx
  simp only [impl_UnpackEstimates_l1] at h
  rcases it_some h with ⟨_, h⟩ | ⟨_, h⟩
  · obtain ⟨y1, _, h⟩ := bd_some h
    obtain ⟨y2, _, h⟩ := bd_some h
    obtain ⟨y3, _, h⟩ := bd_some h
    obtain ⟨y4, _, h⟩ := bd_some h
    obtain ⟨y5, _, h⟩ := bd_some h
    obtain ⟨y6, _, h⟩ := bd_some h
    obtain ⟨y7, _, h⟩ := bd_some h
    rcases it_some h with ⟨_, h⟩ | ⟨_, h⟩
    · cases h; rfl
    · obtain ⟨_, h⟩ := ck_some h
      obtain ⟨_, h⟩ := ck_some h
      obtain ⟨_, h⟩ := ck_some h
      obtain ⟨_, h⟩ := ck_some h
      cases h
  · cases h

theorem Unpack_ok {b : List UInt8} {l : List Estimate} (h : impl_UnpackEstimates b = some (l, 0)) : impl_PackEstimates l = some (b, 0) := by
  unfold impl_UnpackEstimates at h
  obtain ⟨y1, _, h⟩ := bd_some h
  rcases it_some h with ⟨c, h⟩ | ⟨_, h⟩
  · cases h; simp at c
  obtain ⟨_, h⟩ := ck_some h
  obtain ⟨y2, _, h⟩ := bd_some h
  obtain ⟨y3, _, h⟩ := bd_some h
  obtain ⟨y4, _, h⟩ := bd_some h
  obtain ⟨y5, e5, h⟩ := bd_some h
  have hout := while_out (Q := fun r => ∀ x, r = .inr x → x.2 = 8) (fun s r hs => unpackE_out hs) e5
  cases y5 with
  | inl a =>
    dsimp only at h
    obtain ⟨y6, e6, h⟩ := bd_some h
    obtain ⟨_, h⟩ := ck_some h
    rcases it_some h with ⟨c, h⟩ | ⟨c, h⟩
    · cases h
    · cases h
      simp only [bytes_Equal, Option.getD_some, Bool.or_eq_false_iff, Bool.not_eq_false', beq_iff_eq] at c
      obtain ⟨⟨_, c2⟩, c3⟩ := c
      rw [e6]
      obtain ⟨z1, z2⟩ := y6
      simp only at c2 c3
      rw [c2, c3]
  | inr x =>
    dsimp only at h
    have := hout x rfl
    simp only [Option.some.injEq, Prod.mk.injEq] at h
    omega

theorem UnpackC_ok {b : List UInt8} {l : List Point} (h : impl_UnpackCurve b = some (l, 0)) : impl_PackCurve l = some (b, 0) := by
  unfold impl_UnpackCurve at h
  obtain ⟨y1, _, h⟩ := bd_some h
  rcases it_some h with ⟨c, h⟩ | ⟨_, h⟩
  · cases h; simp at c
  obtain ⟨_, h⟩ := ck_some h
  obtain ⟨y4, _, h⟩ := bd_some h
  obtain ⟨a, e5, h⟩ := bd_some h
  obtain ⟨y6, e6, h⟩ := bd_some h
  obtain ⟨_, h⟩ := ck_some h
  rcases it_some h with ⟨c, h⟩ | ⟨c, h⟩
  · cases h
  · cases h
    simp only [bytes_Equal, Option.getD_some, Bool.or_eq_false_iff, Bool.not_eq_false', beq_iff_eq] at c
    obtain ⟨⟨_, c2⟩, c3⟩ := c
    rw [e6]
    obtain ⟨z1, z2⟩ := y6
    simp only at c2 c3
    rw [c2, c3]

end Go.Proofs.YtpjpfdoaemoddaaGreat
