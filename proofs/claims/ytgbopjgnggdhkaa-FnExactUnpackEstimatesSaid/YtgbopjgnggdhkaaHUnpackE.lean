/- What typed forms say: reading packed estimates. No condition. -/
import Derived.Test.YtgbopjgnggdhkaaHUnpackN
import Derived.Test.YtgbopjgnggdhkaaHPack
namespace Go.Proofs.Ytgbopjgnggdhkaa
open Go Go.RowKit
set_option linter.unusedSimpArgs false
set_option linter.unusedVariables false

theorem check_sameE {b : List UInt8} (hl : b.length ≤ 1048576) : ∃ q, spec_l25Open b 69 = some q ∧ impl_checkPacked__impl_UnpackEstimates_c1 b = some q ∧ (q = 0 → 3 ≤ b.length ∧ b.length ≤ 8000) := by
  unfold spec_l25Open impl_checkPacked__impl_UnpackEstimates_c1
  simp only [impl_UnpackEstimates_c1, Option.isSome_some, Option.getD_some, Bool.or_true, ck_true]
  by_cases hsz : b.length < 3 ∨ 8000 < b.length
  · have e : (decide ((b.length : Int) < 3) || decide (8000 < (b.length : Int))) = true := by simp; omega
    simp only [e, Bool.not_true, Bool.not_false, Bool.true_or, ck_true, if_true]
    exact ⟨8, rfl, rfl, fun c => absurd c (by decide)⟩
  · have e : (decide ((b.length : Int) < 3) || decide (8000 < (b.length : Int))) = false := by simp; omega
    have hix : ixOk 0 b.length = true := (by rw [show (0 : Int) = ((0 : Nat) : Int) from rfl, ixOk_nat]; simp; omega)
    simp only [e, hix, Bool.or_true, ck_true, Bool.false_or]
    cases hk : (((b.getD 0 default).toNat : Int) == 69)
    · simp only [Bool.not_false, if_true]
      exact ⟨8, rfl, rfl, fun c => absurd c (by decide)⟩
    · have hw1 : IntKind.i64.wrap ((b.length : Int) - 2) = (b.length : Int) - 2 := wrap_i64 (by omega) (by omega)
      have hw2 : IntKind.i64.wrap ((b.length : Int) - 1) = (b.length : Int) - 1 := wrap_i64 (by omega) (by omega)
      have hw3 : IntKind.i64.wrap ((b.length : Int) - 2 + 1) = (b.length : Int) - 1 := by rw [show (b.length : Int) - 2 + 1 = (b.length : Int) - 1 by omega]; exact hw2
      have i1 : ixOk ((b.length : Int) - 2) b.length = true := ixOk_of (by omega) (by omega)
      have i2 : ixOk ((b.length : Int) - 1) b.length = true := ixOk_of (by omega) (by omega)
      have i3 : cutOk 0 ((b.length : Int) - 2) b.length = true := cutOk_of (by omega) (by omega) (by omega)
      obtain ⟨s, hs1, hs2, hs3, hs4⟩ := sum_is (b := cut b 0 ((b.length : Int) - 2)) (by simp only [cut, List.length_drop, List.length_take]; omega)
      simp only [hw1, hw2, hw3, i1, i2, i3, ck_true, hs1, hs4, Option.bind_some, Bool.not_true, Bool.false_eq_true, if_false]
      have c1 : (256 : Int) * ((b.getD ((b.length : Int) - 2).toNat default).toNat : Int) = ((b.getD ((b.length : Int) - 2).toNat default).toNat : Int) * 256 := Int.mul_comm _ _
      rw [c1]
      generalize IntKind.i64.wrap (IntKind.i64.wrap (((b.getD ((b.length : Int) - 2).toNat default).toNat : Int) * 256) + ((b.getD ((b.length : Int) - 1).toNat default).toNat : Int)) = q
      rw [beq_comm' q s]
      cases (s == q)
      · exact ⟨9, rfl, rfl, fun c => absurd c (by decide)⟩
      · exact ⟨0, rfl, rfl, fun _ => by omega⟩

/-- A number that is read, whatever stands there. -/
theorem num_all {r : L25R} (hb : r.b_.length ≤ 1048576) (h0 : 0 ≤ r.at_) (h1 : r.at_ ≤ r.b_.length) (most : Int) : ∃ n r', spec_l25R_number r most = some (n, r') ∧ r'.b_ = r.b_ ∧ 0 ≤ r'.at_ ∧ r'.at_ ≤ r.b_.length ∧ (r.ok_ = false → r'.ok_ = false) ∧ 0 ≤ n ∧ (r'.ok_ = true → n ≤ most) := by
  obtain ⟨rb, ra, ro⟩ := r
  simp only at hb h0 h1
  obtain ⟨n, k, ok, e1, e2, hn, hk, hk9⟩ := read_is (rb.drop ra.toNat)
  rw [List.length_drop] at hk
  unfold spec_l25R_number
  simp only
  rw [cutOk_of h0 h1 (by omega), ck_true, cut_drop, e1]
  simp only [Option.bind_some]
  by_cases c : (!ok || decide (most < (n : Int))) = true
  · rw [if_pos c]
    exact ⟨_, _, rfl, rfl, h0, h1, fun _ => rfl, by omega, fun e => absurd e Bool.false_ne_true⟩
  · rw [if_neg c]
    simp only [Bool.or_eq_true, Bool.not_eq_true', decide_eq_true_eq, not_or, Bool.not_eq_false] at c
    rw [wrap_i64 (n := ra + (k : Int)) (by omega) (by omega)]
    exact ⟨_, _, rfl, rfl, by show 0 ≤ ra + (k : Int); omega, by show ra + (k : Int) ≤ rb.length; omega, fun c => c, by omega, fun _ => by omega⟩

/-! ### Names -/

theorem cut_mid {body : List UInt8} {a n : Int} (h0 : 0 ≤ a) (h1 : 0 ≤ n) : cut (body.drop a.toNat) 0 n = cut body a (a + n) := by
  simp only [cut]
  rw [show ((0 : Int).toNat) = 0 from rfl, List.drop_zero, List.take_drop]
  congr 2
  omega

theorem names_loop {body : List UInt8} (hb : body.length ≤ 1048576) (c : Int) (hc : c ≤ 1000) : ∀ (k : Nat) (r : L25R) (u : Unpacker) (out : List Bs) (t : Int), Rel body r u → (out.length : Int) = t → t + k = c →
    ∃ rf outS, whileE spec_l25R_names_l1 (r, out, (k : Int)) = some (rf, outS) ∧ outS.length ≤ 2000 ∧
      ((∃ uf, Rel body rf uf ∧ whileE (impl_unpacker_names_l1 c) (u, out, t) = some (.inl (uf, outS))) ∨
       (rf.ok_ = false ∧ rf.b_ = body ∧ 0 ≤ rf.at_ ∧ rf.at_ ≤ body.length ∧ ∃ uf, whileE (impl_unpacker_names_l1 c) (u, out, t) = some (.inr (uf, [])) ∧ uf.bad_ = true))
  | 0, r, u, out, t, hr, ht, hk => by
    refine ⟨r, out, whileE_done (by simp [spec_l25R_names_l1]), by omega, .inl ⟨u, hr, whileE_done ?_⟩⟩
    have : ¬ t < c := by omega
    simp [impl_unpacker_names_l1, this]
  | k + 1, r, u, out, t, hr, ht, hk => by
    have p : decide ((0 : Int) < ((k + 1 : Nat) : Int)) = true := decide_eq_true (by omega)
    have w : IntKind.i64.wrap (((k + 1 : Nat) : Int) - 1) = (k : Int) := by rw [wrap_i64 (by omega) (by omega)]; omega
    have p2 : decide (t < c) = true := by simp; omega
    have w2 : IntKind.i64.wrap (t + 1) = t + 1 := wrap_i64 (by omega) (by omega)
    have ap : ∀ x : Bs, appOk (out.length + ([x] : List Bs).length) 16 = true := fun x => appOk_of (by simp; omega)
    obtain ⟨n1, ok1, r1, u1, hr1, e1⟩ := num_is hb hr
    obtain ⟨s1, i1⟩ := e1 12
    by_cases c1 : (!ok1 || decide ((12 : Int) < (n1 : Int))) = true
    · rw [if_pos c1] at s1 i1
      have h0 := hr.lo
      have h1 := hr.hi
      have wa : IntKind.i64.wrap (r.at_ + 0) = r.at_ := by rw [wrap_i64 (by omega) (by omega)]; omega
      have d0 : decide ((body.length : Int) < r.at_) = false := decide_eq_false (by omega)
      have hs : spec_l25R_names_l1 (r, out, ((k + 1 : Nat) : Int)) = some (.inl (⟨body, r.at_, false⟩, out ++ [cut body r.at_ r.at_], (k : Int))) := by
        simp only [spec_l25R_names_l1, p, hr.ok, Bool.and_self, if_true, s1, Option.bind_some, wa, d0, Bool.false_eq_true, if_false, cutOk_of h0 (Int.le_refl _) h1, ap, ck_true, w]
      have hi : impl_unpacker_names_l1 c (u, out, t) = some (.inr (.inr (⟨u.rest_, true⟩, []))) := by
        simp only [impl_unpacker_names_l1, p2, if_true, i1, Option.bind_some, Bool.true_or]
      refine ⟨⟨body, r.at_, false⟩, out ++ [cut body r.at_ r.at_], ?_, by simp; omega, .inr ⟨rfl, rfl, h0, h1, _, whileE_done hi, rfl⟩⟩
      rw [whileE_next hs]
      exact whileE_done (by simp [spec_l25R_names_l1])
    · rw [if_neg c1] at s1 i1
      simp only [Bool.or_eq_true, Bool.not_eq_true', decide_eq_true_eq, not_or, Bool.not_eq_false] at c1
      obtain ⟨rb, ra, ro⟩ := r1
      obtain ⟨ur, ub⟩ := u1
      obtain ⟨h1, h2, h3, h4, h5, h6⟩ := hr1
      simp only at h1 h2 h3 h4 h5 h6
      subst h1 h4 h5 h6
      have wa : IntKind.i64.wrap (ra + (n1 : Int)) = ra + (n1 : Int) := wrap_i64 (by omega) (by omega)
      have hlen : (((rb.drop ra.toNat).length : Nat) : Int) = rb.length - ra := by rw [List.length_drop]; omega
      by_cases hlt : (rb.length : Int) < ra + n1
      · have d0 : decide ((rb.length : Int) < ra + (n1 : Int)) = true := decide_eq_true hlt
        have d1 : decide (((rb.drop ra.toNat).length : Int) < (n1 : Int)) = true := decide_eq_true (by omega)
        have hs : spec_l25R_names_l1 (r, out, ((k + 1 : Nat) : Int)) = some (.inr (⟨rb, ra, false⟩, out)) := by
          simp only [spec_l25R_names_l1, p, hr.ok, Bool.and_self, if_true, s1, Option.bind_some, wa, d0]
        have hi : impl_unpacker_names_l1 c (u, out, t) = some (.inr (.inr (⟨rb.drop ra.toNat, true⟩, []))) := by
          simp only [impl_unpacker_names_l1, p2, if_true, i1, Option.bind_some, Bool.false_or, d1]
        exact ⟨_, _, whileE_done hs, by omega, .inr ⟨rfl, rfl, h2, h3, _, whileE_done hi, rfl⟩⟩
      · have d0 : decide ((rb.length : Int) < ra + (n1 : Int)) = false := decide_eq_false hlt
        have d1 : decide (((rb.drop ra.toNat).length : Int) < (n1 : Int)) = false := decide_eq_false (by omega)
        have hs : spec_l25R_names_l1 (r, out, ((k + 1 : Nat) : Int)) = some (.inl (⟨rb, ra + (n1 : Int), true⟩, out ++ [cut rb ra (ra + (n1 : Int))], (k : Int))) := by
          simp only [spec_l25R_names_l1, p, hr.ok, Bool.and_self, if_true, s1, Option.bind_some, wa, d0, Bool.false_eq_true, if_false, cutOk_of h2 (show ra ≤ ra + (n1 : Int) by omega) (show ra + (n1 : Int) ≤ rb.length by omega), ap, ck_true, w]
        have hi : impl_unpacker_names_l1 c (u, out, t) = some (.inl (⟨(rb.drop ra.toNat).drop (n1 : Int).toNat, false⟩, out ++ [cut rb ra (ra + (n1 : Int))], t + 1)) := by
          simp only [impl_unpacker_names_l1, p2, if_true, i1, Option.bind_some, Bool.false_or, d1, Bool.false_eq_true, if_false, cutOk_of (Int.le_refl 0) (show (0 : Int) ≤ (n1 : Int) by omega) (show (n1 : Int) ≤ (rb.drop ra.toNat).length by omega),
            cutOk_of (show (0 : Int) ≤ (n1 : Int) by omega) (show (n1 : Int) ≤ ((rb.drop ra.toNat).length : Int) by omega) (Int.le_refl _), ap, ck_true, w2, cut_drop, cut_mid h2 (show (0 : Int) ≤ (n1 : Int) by omega)]
        rw [whileE_next hs, whileE_next hi]
        refine names_loop hb c hc k _ _ _ (t + 1) ⟨rfl, by show 0 ≤ ra + (n1 : Int); omega, by show ra + (n1 : Int) ≤ rb.length; omega, rfl, ?_, rfl⟩ (by simp; omega) (by omega)
        show (rb.drop ra.toNat).drop (n1 : Int).toNat = rb.drop (ra + (n1 : Int)).toNat
        rw [List.drop_drop]
        congr 1
        omega

theorem names_is {body : List UInt8} (hb : body.length ≤ 1048576) {r : L25R} {u : Unpacker} (h : Rel body r u) : ∃ ns r', spec_l25R_names r = some (ns, r') ∧ ns.length ≤ 2000 ∧
    ((∃ u', Rel body r' u' ∧ impl_unpacker_names u = some (ns, u')) ∨ (r'.ok_ = false ∧ r'.b_ = body ∧ 0 ≤ r'.at_ ∧ r'.at_ ≤ body.length ∧ ∃ u', impl_unpacker_names u = some ([], u') ∧ u'.bad_ = true)) := by
  obtain ⟨n1, ok1, r1, u1, hr1, e1⟩ := num_is hb h
  obtain ⟨s1, i1⟩ := e1 100
  unfold spec_l25R_names impl_unpacker_names
  rw [s1, i1]
  simp only [Option.bind_some]
  by_cases c1 : (!ok1 || decide ((100 : Int) < (n1 : Int))) = true
  · rw [if_pos c1, if_pos c1]
    simp only
    rw [whileE_done (r := (⟨body, r.at_, false⟩, [])) (by simp [spec_l25R_names_l1]), whileE_done (r := .inl (⟨u.rest_, true⟩, [])) (by simp [impl_unpacker_names_l1])]
    exact ⟨_, _, rfl, by simp, .inr ⟨rfl, rfl, h.lo, h.hi, _, rfl, rfl⟩⟩
  · rw [if_neg c1, if_neg c1]
    simp only [Bool.or_eq_true, Bool.not_eq_true', decide_eq_true_eq, not_or, Bool.not_eq_false] at c1
    simp only
    obtain ⟨rf, oS, v1, v2, v3⟩ := names_loop hb (n1 : Int) (by omega) n1 r1 u1 [] 0 hr1 rfl (by omega)
    rw [v1]
    rcases v3 with ⟨uf, hf, v4⟩ | ⟨f1, f2, f3, f4, uf, v4, v5⟩
    · rw [v4]
      exact ⟨_, _, rfl, v2, .inl ⟨uf, hf, rfl⟩⟩
    · rw [v4]
      exact ⟨_, _, rfl, v2, .inr ⟨f1, f2, f3, f4, uf, rfl, v5⟩⟩

theorem names_bad {u : Unpacker} (h : u.bad_ = true) : impl_unpacker_names u = some ([], ⟨u.rest_, true⟩) := by
  unfold impl_unpacker_names
  rw [bad_num h]
  simp only [Option.bind_some]
  rw [whileE_done (r := .inl (⟨u.rest_, true⟩, [])) (by simp [impl_unpacker_names_l1])]
  rfl

theorem names_off {r : L25R} (hb : r.b_.length ≤ 1048576) (h0 : 0 ≤ r.at_) (h1 : r.at_ ≤ r.b_.length) (ho : r.ok_ = false) : ∃ r', spec_l25R_names r = some ([], r') ∧ r'.ok_ = false := by
  obtain ⟨n, r', e, _, _, _, h5, _⟩ := num_all hb h0 h1 100
  unfold spec_l25R_names
  rw [e]
  simp only [Option.bind_some]
  rw [whileE_done (r := (r', [])) (by simp [spec_l25R_names_l1, h5 ho])]
  exact ⟨r', rfl, h5 ho⟩

/-! ### Estimates -/

def spoiltE (l : List Estimate) : Prop := ∃ i, i < l.length ∧ oneE (l.getD i default) = false

theorem spoiltE_good {l : List Estimate} (h : spoiltE l) : goodE l = false := by
  obtain ⟨i, hi, ho⟩ := h
  cases hg : goodE l with
  | false => rfl
  | true => rw [(goodE_at hg hi).1] at ho; cases ho

theorem getD_appE {α : Type} {c e : List α} {i : Nat} (hi : i < c.length) (d : α) : (c ++ e).getD i d = c.getD i d := by
  rw [List.getD_eq_getElem?_getD, List.getD_eq_getElem?_getD, List.getElem?_append_left hi]

theorem spoiltE_app {c e : List Estimate} (h : spoiltE c) : spoiltE (c ++ e) := by
  obtain ⟨i, hi, ho⟩ := h
  exact ⟨i, by simp; omega, by rw [getD_appE hi]; exact ho⟩

def lastE (c : List Estimate) : Int := if c.length = 0 then 0 else (c.getD (c.length - 1) default).Mag

theorem oneE_off {e : Estimate} (h : ¬ (-2000 ≤ e.Mag ∧ e.Mag ≤ 20000)) : oneE e = false := by
  have : (decide (-2000 ≤ e.Mag) && decide (e.Mag ≤ 20000)) = false := by
    rw [Bool.and_eq_false_iff, decide_eq_false_iff_not, decide_eq_false_iff_not]; omega
  unfold oneE
  rw [this, Bool.and_false]

theorem getD_last {c : List Estimate} {x : Estimate} : (c ++ [x]).getD c.length default = x := by
  rw [List.getD_eq_getElem?_getD, List.getElem?_append_right (Nat.le_refl _), Nat.sub_self]; rfl

theorem spoiltE_jump {c : List Estimate} {x : Estimate} (h : x.Mag - lastE c < -22000 ∨ 22000 < x.Mag - lastE c) : spoiltE (c ++ [x]) := by
  by_cases hm : -2000 ≤ x.Mag ∧ x.Mag ≤ 20000
  · unfold lastE at h
    split at h
    · omega
    · refine ⟨c.length - 1, by simp; omega, ?_⟩
      rw [getD_appE (by omega)]
      exact oneE_off (by omega)
  · exact ⟨c.length, by simp, by rw [getD_last]; exact oneE_off hm⟩

theorem lastE_app (c : List Estimate) (x : Estimate) : lastE (c ++ [x]) = x.Mag := by
  unfold lastE
  rw [if_neg (by simp)]
  rw [List.length_append, List.length_cons, List.length_nil, Nat.zero_add, Nat.add_sub_cancel, getD_last]

theorem half_ok {n m : Int} (h0 : 0 ≤ n) (h1 : n ≤ 2 * m - 1) (hm : m ≤ 100000) : IntKind.i64.wrap (n.tdiv 2) = n / 2 ∧ 0 ≤ n / 2 ∧ n / 2 < m := by
  rw [Int.tdiv_eq_ediv_of_nonneg h0]
  refine ⟨wrap_i64 (by omega) (by omega), by omega, by omega⟩

section
variable (ss os : List Bs)

def entE (time n1 n2 n3 mag m : Int) : Estimate := Estimate.mk (IntKind.i64.wrap (time + n1)) (ss.getD n2.toNat default) (os.getD (IntKind.i64.wrap (n3.tdiv 2)).toNat default) (IntKind.i64.wrap (mag + m)) ((n3.tmod 2) == 1)

theorem spec_loopE (h1 : ss.length ≤ 2000) (h2 : os.length ≤ 2000) : ∀ (k : Nat) (r : L25R) (out : List Estimate) (time mag : Int), r.b_.length ≤ 1048576 → 0 ≤ r.at_ → r.at_ ≤ r.b_.length → out.length + k ≤ 1000 →
    ∃ rf ext, whileE (spec_l25List_l1 ss os) (r, out, time, mag, (k : Int)) = some (rf, out ++ ext) ∧ ext.length ≤ k ∧ (r.ok_ = false → rf.ok_ = false)
  | 0, r, out, time, mag, h1, h2, h3, h4 => ⟨r, [], by rw [whileE_done (r := (r, out)) (by simp [spec_l25List_l1])]; simp, by simp, fun c => c⟩
  | k + 1, r, out, time, mag, b0, l0, u0, h4 => by
    by_cases ho : r.ok_ = true
    · obtain ⟨n1, r1, e1, b1, l1, u1, _, g1, _⟩ := num_all b0 l0 u0 10000000
      obtain ⟨n2, r2, e2, b2, l2, u2, f2, g2, m2⟩ := num_all (r := r1) (by rw [b1]; exact b0) l1 (by rw [b1]; exact u1) ((ss.length : Int) - 1)
      obtain ⟨n3, r3, e3, b3, l3, u3, f3, g3, m3⟩ := num_all (r := r2) (by rw [b2, b1]; exact b0) l2 (by rw [b2]; exact u2) (2 * (os.length : Int) - 1)
      obtain ⟨n4, r4, e4, b4, l4, u4, f4, g4, m4⟩ := num_all (r := r3) (by rw [b3, b2, b1]; exact b0) l3 (by rw [b3]; exact u3) 100000
      obtain ⟨m, em⟩ := unfold_some n4
      have p : decide ((0 : Int) < ((k + 1 : Nat) : Int)) = true := decide_eq_true (by omega)
      have w : IntKind.i64.wrap (((k + 1 : Nat) : Int) - 1) = (k : Int) := by rw [wrap_i64 (by omega) (by omega)]; omega
      have w1 : IntKind.i64.wrap ((ss.length : Int) - 1) = (ss.length : Int) - 1 := wrap_i64 (by omega) (by omega)
      have w2 : IntKind.i64.wrap (2 * (os.length : Int)) = 2 * (os.length : Int) := wrap_i64 (by omega) (by omega)
      have w3 : IntKind.i64.wrap (2 * (os.length : Int) - 1) = 2 * (os.length : Int) - 1 := wrap_i64 (by omega) (by omega)
      by_cases hk : r4.ok_ = true
      · have o3 : r3.ok_ = true := by cases h : r3.ok_ with | true => rfl | false => rw [f4 h] at hk; cases hk
        have o2 : r2.ok_ = true := by cases h : r2.ok_ with | true => rfl | false => rw [f3 h] at o3; cases o3
        have q2 := m2 o2
        have q3 := m3 o3
        obtain ⟨x1, x2, x3⟩ := half_ok g3 q3 (by omega)
        have hs : spec_l25List_l1 ss os (r, out, time, mag, ((k + 1 : Nat) : Int)) = some (.inl (r4, out ++ [entE ss os time n1 n2 n3 mag m], IntKind.i64.wrap (time + n1), IntKind.i64.wrap (mag + m), (k : Int))) := by
          simp only [spec_l25List_l1, p, ho, Bool.and_self, if_true, e1, e2, e3, e4, em, Option.bind_some, w, w1, w2, w3, hk, Bool.not_true, Bool.false_eq_true, if_false]
          rw [ixOk_of g2 (by omega), ck_true, nz_of (by decide), ck_true, x1, ixOk_of x2 x3, ck_true, appOk_of (by simp; omega), ck_true]
          unfold entE
          rw [x1]
        rw [whileE_next hs]
        obtain ⟨rf, ext, q1, q2, q3⟩ := spec_loopE h1 h2 k r4 (out ++ [entE ss os time n1 n2 n3 mag m]) (IntKind.i64.wrap (time + n1)) (IntKind.i64.wrap (mag + m)) (by rw [b4, b3, b2, b1]; exact b0) l4 (by rw [b4]; exact u4) (by simp; omega)
        exact ⟨rf, [entE ss os time n1 n2 n3 mag m] ++ ext, by rw [q1, List.append_assoc], by simp; omega, fun c => by rw [ho] at c; cases c⟩
      · have hk2 : r4.ok_ = false := by simpa using hk
        have hs : spec_l25List_l1 ss os (r, out, time, mag, ((k + 1 : Nat) : Int)) = some (.inr (r4, out)) := by
          simp only [spec_l25List_l1, p, ho, Bool.and_self, if_true, e1, e2, e3, e4, em, Option.bind_some, w1, w2, w3, hk2, Bool.not_false]
        rw [whileE_done hs]
        exact ⟨r4, [], by simp, by simp, fun _ => hk2⟩
    · have ho2 : r.ok_ = false := by simpa using ho
      exact ⟨r, [], by rw [whileE_done (r := (r, out)) (by simp [spec_l25List_l1, ho2])]; simp, by simp, fun c => c⟩

theorem both_loopE (b : List UInt8) {body : List UInt8} (hb : body.length ≤ 1048576) (h1 : ss.length ≤ 2000) (h2 : os.length ≤ 2000) (c : Int) (hc : c ≤ 1000) : ∀ (k : Nat) (r : L25R) (u : Unpacker) (out : List Estimate) (time mag t : Int), Rel body r u → (out.length : Int) = t → t + k = c → mag = lastE out → -50001 * t ≤ mag → mag ≤ 50000 * t →
    ∃ rf outS, whileE (spec_l25List_l1 ss os) (r, out, time, mag, (k : Int)) = some (rf, outS) ∧ outS.length ≤ 2000 ∧
      ((∃ uf, rf.ok_ = true ∧ uf.bad_ = false ∧ whileE (impl_UnpackEstimates_l1 b ss os c) (u, out, time, mag, t) = some (.inl (uf, outS))) ∨
       (whileE (impl_UnpackEstimates_l1 b ss os c) (u, out, time, mag, t) = some (.inr ([], 8)) ∧ (rf.ok_ = false ∨ goodE outS = false)))
  | 0, r, u, out, time, mag, t, hr, ht, hk, hm, hm1, hm2 => by
    refine ⟨r, out, whileE_done (by simp [spec_l25List_l1]), by omega, .inl ⟨u, hr.ok, hr.good, whileE_done ?_⟩⟩
    have : ¬ t < c := by omega
    simp [impl_UnpackEstimates_l1, this]
  | k + 1, r, u, out, time, mag, t, hr, ht, hk, hm, hm1, hm2 => by
    have p : decide ((0 : Int) < ((k + 1 : Nat) : Int)) = true := decide_eq_true (by omega)
    have w : IntKind.i64.wrap (((k + 1 : Nat) : Int) - 1) = (k : Int) := by rw [wrap_i64 (by omega) (by omega)]; omega
    have p2 : decide (t < c) = true := by simp; omega
    have w2 : IntKind.i64.wrap (t + 1) = t + 1 := wrap_i64 (by omega) (by omega)
    have v1 : IntKind.i64.wrap ((ss.length : Int) - 1) = (ss.length : Int) - 1 := wrap_i64 (by omega) (by omega)
    have v2 : IntKind.i64.wrap (2 * (os.length : Int)) = 2 * (os.length : Int) := wrap_i64 (by omega) (by omega)
    have v3 : IntKind.i64.wrap (2 * (os.length : Int) - 1) = 2 * (os.length : Int) - 1 := wrap_i64 (by omega) (by omega)
    have ap : ∀ x : Estimate, appOk (out.length + ([x] : List Estimate).length) 56 = true := fun x => appOk_of (by simp; omega)
    -- the step of each, once its numbers are known
    have specS : ∀ {n1 n2 n3 n4 m : Int} {r1 r2 r3 r4 : L25R}, spec_l25R_number r 10000000 = some (n1, r1) → spec_l25R_number r1 ((ss.length : Int) - 1) = some (n2, r2) → spec_l25R_number r2 (2 * (os.length : Int) - 1) = some (n3, r3) →
        spec_l25R_number r3 100000 = some (n4, r4) → spec_l25Unfold n4 = some m → r4.ok_ = false → spec_l25List_l1 ss os (r, out, time, mag, ((k + 1 : Nat) : Int)) = some (.inr (r4, out)) := by
      intro n1 n2 n3 n4 m r1 r2 r3 r4 e1 e2 e3 e4 em hk2
      simp only [spec_l25List_l1, p, hr.ok, Bool.and_self, if_true, e1, e2, e3, e4, em, Option.bind_some, v1, v2, v3, hk2, Bool.not_false]
    have implB : ∀ {n1 n2 n3 n4 : Int} {u1 u2 u3 u4 : Unpacker}, impl_unpacker_number u 10000000 = some (n1, u1) → impl_unpacker_number u1 ((ss.length : Int) - 1) = some (n2, u2) → impl_unpacker_number u2 (2 * (os.length : Int) - 1) = some (n3, u3) →
        impl_unpacker_number u3 44000 = some (n4, u4) → u4.bad_ = true → whileE (impl_UnpackEstimates_l1 b ss os c) (u, out, time, mag, t) = some (.inr ([], 8)) := by
      intro n1 n2 n3 n4 u1 u2 u3 u4 e1 e2 e3 e4 hk2
      obtain ⟨m, em⟩ := unfold_some n4
      refine whileE_done ?_
      simp only [impl_UnpackEstimates_l1, impl_count_string, p2, if_true, e1, e2, e3, e4, unfold_same, em, Option.bind_some, v1, v2, v3, hk2]
    -- a failure: the rest of spec is read somehow
    have off : ∀ {n1 n2 n3 n4 : Int} {r1 r2 r3 r4 : L25R}, spec_l25R_number r 10000000 = some (n1, r1) → spec_l25R_number r1 ((ss.length : Int) - 1) = some (n2, r2) → spec_l25R_number r2 (2 * (os.length : Int) - 1) = some (n3, r3) →
        spec_l25R_number r3 100000 = some (n4, r4) → r4.ok_ = false → whileE (impl_UnpackEstimates_l1 b ss os c) (u, out, time, mag, t) = some (.inr ([], 8)) →
        ∃ rf outS, whileE (spec_l25List_l1 ss os) (r, out, time, mag, ((k + 1 : Nat) : Int)) = some (rf, outS) ∧ outS.length ≤ 2000 ∧
          ((∃ uf, rf.ok_ = true ∧ uf.bad_ = false ∧ whileE (impl_UnpackEstimates_l1 b ss os c) (u, out, time, mag, t) = some (.inl (uf, outS))) ∨
           (whileE (impl_UnpackEstimates_l1 b ss os c) (u, out, time, mag, t) = some (.inr ([], 8)) ∧ (rf.ok_ = false ∨ goodE outS = false))) := by
      intro n1 n2 n3 n4 r1 r2 r3 r4 e1 e2 e3 e4 hk2 hi
      obtain ⟨m, em⟩ := unfold_some n4
      exact ⟨r4, out, whileE_done (specS e1 e2 e3 e4 em hk2), by omega, .inr ⟨hi, .inl hk2⟩⟩
    obtain ⟨n1, ok1, r1, u1, hr1, e1⟩ := num_is hb hr
    obtain ⟨s1, i1⟩ := e1 10000000
    by_cases c1 : (!ok1 || decide ((10000000 : Int) < (n1 : Int))) = true
    · rw [if_pos c1] at s1 i1
      obtain ⟨y2, q2, a2, b2, l2, x2, f2, _⟩ := num_all (r := ⟨body, r.at_, false⟩) hb hr.lo hr.hi ((ss.length : Int) - 1)
      obtain ⟨y3, q3, a3, b3, l3, x3, f3, _⟩ := num_all (r := q2) (by rw [b2]; exact hb) l2 (by rw [b2]; exact x2) (2 * (os.length : Int) - 1)
      obtain ⟨y4, q4, a4, b4, l4, x4, f4, _⟩ := num_all (r := q3) (by rw [b3, b2]; exact hb) l3 (by rw [b3]; exact x3) 100000
      exact off s1 a2 a3 a4 (f4 (f3 (f2 rfl))) (implB i1 (bad_num rfl _) (bad_num rfl _) (bad_num rfl _) rfl)
    rw [if_neg c1] at s1 i1
    obtain ⟨n2, ok2, r2, u2, hr2, e2⟩ := num_is hb hr1
    obtain ⟨s2, i2⟩ := e2 ((ss.length : Int) - 1)
    by_cases c2 : (!ok2 || decide ((ss.length : Int) - 1 < (n2 : Int))) = true
    · rw [if_pos c2] at s2 i2
      obtain ⟨y3, q3, a3, b3, l3, x3, f3, _⟩ := num_all (r := ⟨body, r1.at_, false⟩) hb hr1.lo hr1.hi (2 * (os.length : Int) - 1)
      obtain ⟨y4, q4, a4, b4, l4, x4, f4, _⟩ := num_all (r := q3) (by rw [b3]; exact hb) l3 (by rw [b3]; exact x3) 100000
      exact off s1 s2 a3 a4 (f4 (f3 rfl)) (implB i1 i2 (bad_num rfl _) (bad_num rfl _) rfl)
    rw [if_neg c2] at s2 i2
    obtain ⟨n3, ok3, r3, u3, hr3, e3⟩ := num_is hb hr2
    obtain ⟨s3, i3⟩ := e3 (2 * (os.length : Int) - 1)
    by_cases c3 : (!ok3 || decide (2 * (os.length : Int) - 1 < (n3 : Int))) = true
    · rw [if_pos c3] at s3 i3
      obtain ⟨y4, q4, a4, b4, l4, x4, f4, _⟩ := num_all (r := ⟨body, r2.at_, false⟩) hb hr2.lo hr2.hi 100000
      exact off s1 s2 s3 a4 (f4 rfl) (implB i1 i2 i3 (bad_num rfl _) rfl)
    rw [if_neg c3] at s3 i3
    obtain ⟨n4, ok4, r4, u4, hr4, e4⟩ := num_is hb hr3
    have s4 := (e4 100000).1
    have i4 := (e4 44000).2
    by_cases c4 : (!ok4 || decide ((100000 : Int) < (n4 : Int))) = true
    · rw [if_pos c4] at s4
      have c5 : (!ok4 || decide ((44000 : Int) < (n4 : Int))) = true := by
        simp only [Bool.or_eq_true, Bool.not_eq_true', decide_eq_true_eq] at c4 ⊢
        rcases c4 with h | h
        · exact .inl h
        · exact .inr (by omega)
      rw [if_pos c5] at i4
      exact off s1 s2 s3 s4 rfl (implB i1 i2 i3 i4 rfl)
    rw [if_neg c4] at s4
    simp only [Bool.or_eq_true, Bool.not_eq_true', decide_eq_true_eq, not_or, Bool.not_eq_false] at c2 c3 c4
    obtain ⟨m, em, m1, m2, m3⟩ := unfold_is (n := (n4 : Int)) (by omega) (by omega)
    have wm : IntKind.i64.wrap (mag + m) = mag + m := wrap_i64 (by omega) (by omega)
    obtain ⟨x1, x2, x3⟩ := half_ok (n := (n3 : Int)) (m := (os.length : Int)) (by omega) (by omega) (by omega)
    have hs : spec_l25List_l1 ss os (r, out, time, mag, ((k + 1 : Nat) : Int)) = some (.inl (r4, out ++ [entE ss os time n1 n2 n3 mag m], IntKind.i64.wrap (time + n1), mag + m, (k : Int))) := by
      simp only [spec_l25List_l1, p, hr.ok, Bool.and_self, if_true, s1, s2, s3, s4, em, Option.bind_some, w, v1, v2, v3, hr4.ok, Bool.not_true, Bool.false_eq_true, if_false]
      rw [ixOk_of (by omega) (by omega), ck_true, nz_of (by decide), ck_true, x1, ixOk_of x2 x3, ck_true, ap, ck_true]
      unfold entE
      rw [x1, wm]
    have hmag : (entE ss os time n1 n2 n3 mag m).Mag = mag + m := wm
    by_cases c5 : (44000 : Int) < (n4 : Int)
    · have c6 : (!ok4 || decide ((44000 : Int) < (n4 : Int))) = true := by simp [c5]
      rw [if_pos c6] at i4
      rw [whileE_next hs]
      obtain ⟨rf, ext, q1, q2, q3⟩ := spec_loopE ss os h1 h2 k r4 (out ++ [entE ss os time n1 n2 n3 mag m]) (IntKind.i64.wrap (time + n1)) (mag + m) (by rw [hr4.b]; exact hb) hr4.lo (by rw [hr4.b]; exact hr4.hi) (by simp; omega)
      refine ⟨rf, _, q1, by simp; omega, .inr ⟨implB i1 i2 i3 i4 rfl, .inr (spoiltE_good (spoiltE_app (spoiltE_jump ?_)))⟩⟩
      rw [hmag, ← hm]
      have := m3 c5
      omega
    · have c6 : ¬ (!ok4 || decide ((44000 : Int) < (n4 : Int))) = true := by simp [c5, c4.1]
      rw [if_neg c6] at i4
      have hi : impl_UnpackEstimates_l1 b ss os c (u, out, time, mag, t) = some (.inl (u4, out ++ [entE ss os time n1 n2 n3 mag m], IntKind.i64.wrap (time + n1), mag + m, t + 1)) := by
        simp only [impl_UnpackEstimates_l1, impl_count_string, p2, if_true, i1, i2, i3, i4, unfold_same, em, Option.bind_some, w2, v1, v2, v3, hr4.good, Bool.false_eq_true, if_false]
        rw [ixOk_of (by omega) (by omega), ck_true, nz_of (by decide), ck_true, x1, ixOk_of x2 x3, ck_true, ap, ck_true]
        unfold entE
        rw [x1, wm]
      rw [whileE_next hs, whileE_next hi]
      exact both_loopE b hb h1 h2 c hc k r4 u4 (out ++ [entE ss os time n1 n2 n3 mag m]) (IntKind.i64.wrap (time + n1)) (mag + m) (t + 1) hr4 (by simp; omega) (by omega) (by rw [lastE_app, hmag]) (by omega) (by omega)
end

theorem list_off (ss os : List Bs) (r : L25R) (ho : r.ok_ = false) : whileE (spec_l25List_l2 ss os) (r, [], 0, 0, 0) = some (r, []) := whileE_done (by simp [spec_l25List_l2])

theorem impl_empty : ∃ l, impl_PackEstimates [] = some (l, 0) := by
  have h := Pack_is (l := []) (by simp)
  rw [if_pos (by rfl)] at h
  obtain ⟨l, _, _, h3⟩ := h
  exact ⟨l, h3⟩

theorem UnpackEstimates_same {b : List UInt8} (hl : b.length ≤ 1048576) : ∃ l k, l.length ≤ 2000 ∧ spec_UnpackEstimates b = some (l, k) ∧ impl_UnpackEstimates b = some (l, k) := by
  unfold spec_UnpackEstimates impl_UnpackEstimates
  obtain ⟨q, q1, q2, q3⟩ := check_sameE hl
  rw [q1, q2]
  simp only [Option.bind_some]
  by_cases hq : q = 0
  · obtain ⟨l3, l8⟩ := q3 hq
    subst hq
    have w : IntKind.i64.wrap ((b.length : Int) - 2) = (b.length : Int) - 2 := wrap_i64 (by omega) (by omega)
    have k1 : cutOk 0 ((b.length : Int) - 2) b.length = true := cutOk_of (by omega) (by omega) (by omega)
    have k2 : cutOk 1 ((b.length : Int) - 2) b.length = true := cutOk_of (by omega) (by omega) (by omega)
    simp only [beq_self_eq_true, Bool.not_true, Bool.false_eq_true, if_false, w, k1, k2, ck_true]
    have hbody : (cut b 0 ((b.length : Int) - 2)).length = b.length - 2 := by simp only [cut, List.length_drop, List.length_take]; omega
    have hrel : Rel (cut b 0 ((b.length : Int) - 2)) ⟨cut b 0 ((b.length : Int) - 2), 1, true⟩ ⟨cut b 1 ((b.length : Int) - 2), false⟩ := by
      refine ⟨rfl, by show (0 : Int) ≤ 1; omega, by show (1 : Int) ≤ _; rw [hbody]; omega, rfl, ?_, rfl⟩
      simp [cut]
    generalize cut b 0 ((b.length : Int) - 2) = body at hrel hbody
    generalize cut b 1 ((b.length : Int) - 2) = rest at hrel
    have hb2 : body.length ≤ 1048576 := by omega
    obtain ⟨pe, hpe⟩ := impl_empty
    have specOff : ∀ r : L25R, r.ok_ = false → ∀ ss os : List Bs, ∃ r' : L25R, r'.ok_ = false ∧ (if r.ok_ then (spec_l25R_number r 100).bind fun y_4 => (whileE (spec_l25List_l1 ss os) (y_4.2, ([] : List Estimate), 0, 0, y_4.1)).bind fun y_16 => some (y_16.2, y_16.1.ok_, y_16.1)
        else (whileE (spec_l25List_l2 ss os) (r, ([] : List Estimate), 0, 0, 0)).bind fun y_28 => some (y_28.2, y_28.1.ok_, y_28.1)) = some (([] : List Estimate), false, r') := by
      intro r hr ss os
      refine ⟨r, hr, ?_⟩
      rw [hr, list_off ss os r hr]
      simp [hr]
    unfold spec_l25List
    obtain ⟨ss, r1, a1, a2, a3⟩ := names_is hb2 hrel
    rw [a1]
    simp only [Option.bind_some]
    rcases a3 with ⟨u1, hr1, a3⟩ | ⟨f1, f2, f3, f4, u1, a3, a4⟩
    · rw [a3]
      simp only [Option.bind_some]
      obtain ⟨os, r2, b1, b2, b3⟩ := names_is hb2 hr1
      rw [b1]
      simp only [Option.bind_some]
      rcases b3 with ⟨u2, hr2, b3⟩ | ⟨g1, g2, g3, g4, u2, b3, b4⟩
      · rw [b3]
        simp only [Option.bind_some, hr2.ok, if_true]
        obtain ⟨n0, ok0, r0, u0, hr0, e0⟩ := num_is hb2 hr2
        obtain ⟨s0, i0⟩ := e0 100
        rw [s0, i0]
        simp only [Option.bind_some]
        by_cases c0 : (!ok0 || decide ((100 : Int) < (n0 : Int))) = true
        · rw [if_pos c0, if_pos c0]
          simp only
          rw [whileE_done (r := (⟨body, r2.at_, false⟩, [])) (by simp [spec_l25List_l1]), whileE_done (r := .inl (⟨u2.rest_, true⟩, [])) (by simp [impl_UnpackEstimates_l1])]
          simp only [Option.bind_some, hpe, bytes_Equal, Bool.true_or, Bool.not_true, Bool.not_false, Option.isSome_some, Bool.or_true, Bool.false_or, ck_true, if_true]
          exact ⟨[], 8, by simp, rfl, rfl⟩
        · rw [if_neg c0, if_neg c0]
          simp only [Bool.or_eq_true, Bool.not_eq_true', decide_eq_true_eq, not_or, Bool.not_eq_false] at c0
          simp only
          obtain ⟨rf, oS, v1, v2, v3⟩ := both_loopE ss os b hb2 (by omega) (by omega) (n0 : Int) (by omega) n0 r0 u0 [] 0 0 0 hr0 rfl (by omega) rfl (by omega) (by omega)
          rw [v1]
          simp only [Option.bind_some]
          have hk := l06Ok_is (l := oS) (by omega)
          have hcu := Pack_is (l := oS) (by omega)
          rcases v3 with ⟨uf, o1, o2, v4⟩ | ⟨v4, o2⟩
          · rw [v4, hk]
            simp only [Option.bind_some]
            cases hg : (goodE oS && decide (oS.length ≤ 100))
            · rw [hg, if_neg Bool.false_ne_true] at hcu
              rw [hcu]
              simp only [o1, o2, Option.bind_some, Bool.not_true, Bool.not_false, Bool.or_true, Bool.true_or, Bool.false_or, Option.isSome_some, Option.getD_some, ck_true, bytes_Equal, if_true]
              exact ⟨[], 8, by simp, rfl, by simp⟩
            · rw [hg, if_pos rfl] at hcu
              obtain ⟨cu, _, c1, c2⟩ := hcu
              rw [c2, c1]
              simp only [o1, o2, Option.bind_some, Option.isSome_some, Option.getD_some, Bool.or_true, ck_true, Bool.not_true, Bool.false_or, beq_self_eq_true, bytes_Equal]
              cases (cu == b)
              · exact ⟨[], 8, by simp, rfl, rfl⟩
              · exact ⟨oS, 0, v2, rfl, rfl⟩
          · rw [v4]
            simp only [Option.bind_some]
            refine ⟨[], 8, by simp, ?_, rfl⟩
            rcases o2 with o2 | o2
            · simp [o2, ck_true]
            · rw [hk, o2]
              simp [ck_true]
      · rw [b3]
        simp only [Option.bind_some]
        obtain ⟨r', h', e'⟩ := specOff r2 g1 ss os
        rw [e', bad_num b4]
        simp only [Option.bind_some]
        rw [whileE_done (r := .inl (⟨u2.rest_, true⟩, [])) (by simp [impl_UnpackEstimates_l1])]
        simp only [Option.bind_some, hpe, bytes_Equal, Option.isSome_some, Bool.or_true, Bool.not_false, Bool.not_true, Bool.false_or, Bool.true_or, ck_true, if_true]
        exact ⟨[], 8, by simp, rfl, rfl⟩
    · obtain ⟨r2, b1, b2⟩ := names_off (by rw [f2]; exact hb2) f3 (by rw [f2]; exact f4) f1
      rw [a3, b1]
      simp only [Option.bind_some]
      rw [names_bad a4]
      simp only [Option.bind_some]
      obtain ⟨r', h', e'⟩ := specOff r2 b2 ss []
      rw [e', bad_num rfl]
      simp only [Option.bind_some]
      rw [whileE_done (r := .inl (⟨u1.rest_, true⟩, [])) (by simp [impl_UnpackEstimates_l1])]
      simp only [Option.bind_some, hpe, bytes_Equal, Option.isSome_some, Bool.or_true, Bool.not_false, Bool.not_true, Bool.false_or, Bool.true_or, ck_true, if_true]
      exact ⟨[], 8, by simp, rfl, rfl⟩
  · have h : (!(q == 0)) = true := by simpa using hq
    simp only [h, if_true]
    exact ⟨[], q, by simp, rfl, rfl⟩

end Go.Proofs.Ytgbopjgnggdhkaa
