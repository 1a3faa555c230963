/- Plain lemmas, several texts in one. No condition. -/
import Derived.Test.YthdmeanbdohehaaGreatDoorDKT
import Derived.Test.YthdmeanbdohehaaGreatDoorHPA
import Derived.Test.YthdmeanbdohehaaGreatDoorEngTD
namespace Go.Proofs.YthdmeanbdohehaaGreatDoor
open Go Go.RowKit Go.Proofs.YthdmeanbdohehaaGreatDoor.stab
set_option linter.unusedSimpArgs false
set_option linter.unusedVariables false
theorem i_swp : Af = dS := rfl
theorem i_rot : At = aH := rfl
theorem i_ins : Ai = kM BP := rfl
theorem oJ : ∀ (k : Nat) (d : List AA) (a m b : Int), AG k d a m b = Cj BP k d a m b
 | 0, _, _, _, _ => rfl
 | k + 1, d, a, m, b => by
  have ih := oJ k
  unfold AG Cj
  simp only [ih]
  rfl
theorem kD : BG = dR BP := by
 funext d a m b; exact oJ 64 d a m b
theorem i_l3 (n bs : Int) : Am n bs = Hu BP n bs := by
 funext ⟨d, a, b⟩
 unfold Am Hu
 rw [kD]
theorem i_l2 (n : Int) : Ao n = HW BP n := by
 funext ⟨d, b⟩
 unfold Ao HW
 rw [kD]
 simp only [i_l3]
theorem rl (d : List AA) (n : Int) : As d n = nU BP d n := by
 unfold As nU
 rw [i_l2]
 rfl
end Go.Proofs.YthdmeanbdohehaaGreatDoor
namespace Go.Proofs.YthdmeanbdohehaaGreatDoor
open Go Go.RowKit Go.Proofs.YthdmeanbdohehaaGreatDoor.stab
set_option linter.unusedSimpArgs false
set_option linter.unusedVariables false
def EB (l : List AA) (t : Int) : Prop := ∃ w ∈ l, w.From ≤ t ∧ t ≤ w.To
def JJ (l : List AA) : Prop := ∀ w ∈ l, 0 ≤ w.From ∧ w.From ≤ w.To ∧ w.To ≤ 1000000000
def Hq (l : List AA) : Prop := l.Pairwise fun x y => x.To + 1 < y.From
theorem FE {t : Int} : ¬ EB [] t := fun ⟨w, h, _⟩ => by cases h
theorem Fe {a b : List AA} {t : Int} : EB (a ++ b) t ↔ EB a t ∨ EB b t := by
 unfold EB
 constructor
 ·rintro ⟨w, h, k⟩
  rcases List.mem_append.1 h with h | h
  ·exact .inl ⟨w, h, k⟩
  ·exact .inr ⟨w, h, k⟩
 ·rintro (⟨w, h, k⟩ | ⟨w, h, k⟩)
  ·exact ⟨w, List.mem_append.2 (.inl h), k⟩
  ·exact ⟨w, List.mem_append.2 (.inr h), k⟩
theorem Bt {x : AA} {b : List AA} {t : Int} : EB (x :: b) t ↔ (x.From ≤ t ∧ t ≤ x.To) ∨ EB b t := by
 unfold EB
 constructor
 ·rintro ⟨w, h, k⟩
  rcases List.mem_cons.1 h with rfl | h
  ·exact .inl k
  ·exact .inr ⟨w, h, k⟩
 ·rintro (k | ⟨w, h, k⟩)
  ·exact ⟨x, List.mem_cons_self, k⟩
  ·exact ⟨w, List.mem_cons_of_mem _ h, k⟩
theorem Oa : ∀ {a b : List AA}, JJ a → JJ b → Hq a → Hq b → (∀ t, EB a t ↔ EB b t) → a = b
 | [], [], _, _, _, _, _ => rfl
 | [], y :: b, _, fb, _, _, h => by
  have := fb y List.mem_cons_self
  exact absurd ((h y.From).2 (Bt.2 (.inl ⟨by omega, by omega⟩))) FE
 | x :: a, [], fa, _, _, _, h => by
  have := fa x List.mem_cons_self
  exact absurd ((h x.From).1 (Bt.2 (.inl ⟨by omega, by omega⟩))) FE
 | x :: a, y :: b, fa, fb, pa, pb, h => by
  have hx := fa x List.mem_cons_self
  have hy := fb y List.mem_cons_self
  obtain ⟨pa1, pa2⟩ := List.pairwise_cons.1 pa
  obtain ⟨pb1, pb2⟩ := List.pairwise_cons.1 pb
  have la : ∀ t, EB a t → x.To + 1 < t := fun t ⟨w, hw, k⟩ => by have := pa1 w hw; omega
  have lb : ∀ t, EB b t → y.To + 1 < t := fun t ⟨w, hw, k⟩ => by have := pb1 w hw; omega
  have e1 : x.From = y.From := by
   have h1 := (h x.From).1 (Bt.2 (.inl ⟨by omega, by omega⟩))
   have h2 := (h y.From).2 (Bt.2 (.inl ⟨by omega, by omega⟩))
   rcases Bt.1 h1 with k | k <;> rcases Bt.1 h2 with m | m
   ·omega
   ·have := la _ m; omega
   ·have := lb _ k; omega
   ·have := la _ m; have := lb _ k; omega
  have e2 : x.To = y.To := by
   rcases Int.lt_trichotomy x.To y.To with g | g | g
   ·have h2 := (h (x.To + 1)).2 (Bt.2 (.inl ⟨by omega, by omega⟩))
    rcases Bt.1 h2 with m | m
    ·omega
    ·have := la _ m; omega
   ·exact g
   ·have h1 := (h (y.To + 1)).1 (Bt.2 (.inl ⟨by omega, by omega⟩))
    rcases Bt.1 h1 with m | m
    ·omega
    ·have := lb _ m; omega
  have e : x = y := by cases x; cases y; simp_all
  subst e
  congr 1
  refine Oa (fun w hw => fa w (List.mem_cons_of_mem _ hw)) (fun w hw => fb w (List.mem_cons_of_mem _ hw)) pa2 pb2 fun t => ?_
  constructor
  ·intro ht
   rcases Bt.1 ((h t).1 (Bt.2 (.inr ht))) with m | m
   ·have := la _ ht; omega
   ·exact m
  ·intro ht
   rcases Bt.1 ((h t).2 (Bt.2 (.inr ht))) with m | m
   ·have := lb _ ht; omega
   ·exact m
def uL (a b : AA) : Bool := decide (a.From < b.From)
theorem uK : Xo uL := by
 refine ⟨?_, ?_⟩ <;> (intros; simp only [uL, decide_eq_true_eq, decide_eq_false_iff_not] at *; omega)
theorem ne : Jl BP uL := fun x y => by
 unfold BP Ff FN uL
 by_cases h : x.From < y.From
 ·exact ⟨-1, by simp [h], by simp [h]⟩
 ·by_cases h2 : y.From < x.From
  ·exact ⟨1, by simp [h, h2], by simp [h]⟩
  ·exact ⟨0, by simp [h, h2], by simp [h]⟩
theorem cR {l : List AA} (hl : l.length ≤ 1099511627776) : ∃ d, AQ l = some d ∧ d.Pairwise (fun x y => x.From ≤ y.From) ∧ d.Perm l := by
 obtain ⟨d, h1, h2, h3⟩ := ls ne uK hl
 refine ⟨d, ?_, ?_, h3.perm⟩
 ·unfold AQ OP Aq
  rw [if_pos hl, Option.bind_some, rl, h1]
  have : (d.length == l.length) = true := by have := h3.len; simp [this]
  simp only [Option.bind_some, this, AN]
 ·refine h2.imp fun {x y} h => ?_
  simp only [uL, decide_eq_false_iff_not] at h
  omega
def lastTo (out : List AA) : Int := (out.getD (out.length - 1) default).To
theorem cw (n : Nat) (T : List AA) (hT : T.length = n) (hn : n ≤ 1000000) (hs : T.Pairwise (fun x y => x.From ≤ y.From)) (hf : JJ T) : ∀ (m i : Nat) (out : List AA), i + m = n → out.length ≤ i → JJ out → Hq out →
  (∀ t, EB out t ↔ EB (T.take i) t) → (∀ w ∈ out, ∀ v ∈ T.drop i, w.From ≤ v.From) →
  ∃ r, AJ (Bw T (n : Int)) (out, (i : Int)) = some r ∧ JJ r ∧ Hq r ∧ r.length ≤ n ∧ ∀ t, EB r t ↔ EB T t := by
 intro m
 induction m with
 | zero =>
  intro i out hi ho f p q _
  refine ⟨out, Ae ?_, f, p, by omega, fun t => by rw [q, List.take_of_length_le (by omega)]⟩
  unfold Bw
  dsimp only
  rw [if_neg (by simp; omega)]
 | succ m ih =>
  intro i out hi ho f p q mono
  have hiT : i < T.length := by omega
  obtain ⟨x, hx⟩ : ∃ x, T.getD i default = x := ⟨_, rfl⟩
  have hxi : T[i] = x := by rw [← hx, CR hiT]
  have hxm : x ∈ T := by rw [← hxi]; exact List.getElem_mem hiT
  have hxf := hf x hxm
  have htk : T.take (i + 1) = T.take i ++ [x] := by rw [List.take_succ_eq_append_getElem hiT, hxi]
  have hdr : T.drop i = x :: T.drop (i + 1) := by rw [List.drop_eq_getElem_cons hiT, hxi]
  have hup : ∀ v ∈ T.drop (i + 1), x.From ≤ v.From := by
   have := List.Pairwise.sublist (List.drop_sublist i T) hs
   rw [hdr] at this
   exact (List.pairwise_cons.1 this).1
  have c1 : decide ((i : Int) < (n : Int)) = true := decide_eq_true (by omega)
  have c2 : BB (i : Int) T.length = true := by rw [Bp]; exact decide_eq_true hiT
  have w1 : IntKind.i64.wrap ((i : Int) + 1) = ((i + 1 : Nat) : Int) := BR (by omega)
  have app : ∀ (hgo : ∀ w ∈ out, w.To + 1 < x.From), Bw T (n : Int) (out, (i : Int)) = some (.inl (out ++ [x], ((i + 1 : Nat) : Int))) →
    ∃ r, AJ (Bw T (n : Int)) (out, (i : Int)) = some r ∧ JJ r ∧ Hq r ∧ r.length ≤ n ∧ ∀ t, EB r t ↔ EB T t := by
   intro hgo hst
   rw [Ah hst]
   refine ih (i + 1) (out ++ [x]) (by omega) (by simp; omega) (fun w hw => ?_) (List.pairwise_append.2 ⟨p, List.pairwise_singleton _ _, fun w hw v hv => ?_⟩) (fun t => ?_) (fun w hw v hv => ?_)
   ·rcases List.mem_append.1 hw with h | h
    ·exact f w h
    ·rw [List.mem_singleton.1 h]; exact hxf
   ·rw [List.mem_singleton.1 hv]; exact hgo w hw
   ·rw [Fe, q, htk, Fe]
   ·rcases List.mem_append.1 hw with h | h
    ·exact mono w h v (by rw [hdr]; exact List.mem_cons_of_mem _ hv)
    ·rw [List.mem_singleton.1 h]; exact hup v hv
  rcases List.eq_nil_or_concat out with rfl | ⟨out0, y, rfl⟩
  ·refine app (fun w hw => by cases hw) ?_
   unfold Bw
   dsimp only
   rw [if_pos c1, c2, AN]
   have e : decide ((0 : Int) ≤ IntKind.i64.wrap (((([] : List AA).length : Nat) : Int) - 1)) = false := by
    rw [AX (by simp) (by simp)]; simp
   rw [e]
   simp only [Bool.not_false, Bool.true_or, AN, Bool.false_and, Bool.false_eq_true, if_false]
   rw [Bu (by simp), AN, Int.toNat_natCast, hx, w1]
  ·rw [List.concat_eq_append] at *
   have hlen : (out0 ++ [y]).length = out0.length + 1 := by simp
   have hy := f y (by simp)
   have hyx : y.From ≤ x.From := mono y (by simp) x (by rw [hdr]; exact List.mem_cons_self)
   have wk : IntKind.i64.wrap (((out0 ++ [y]).length : Int) - 1) = (out0.length : Int) := by
    rw [AX (by omega) (by omega)]; omega
   have gk : (out0 ++ [y]).getD out0.length default = y := by simp [List.getD_eq_getElem?_getD]
   have c3 : decide ((0 : Int) ≤ (out0.length : Int)) = true := decide_eq_true (by omega)
   have c4 : BB (out0.length : Int) (out0 ++ [y]).length = true := by rw [Bp]; simp
   have w2 : IntKind.i64.wrap (y.To + 1) = y.To + 1 := AX (by omega) (by omega)
   obtain ⟨p1, _, p3⟩ := List.pairwise_append.1 p
   by_cases hc : x.From ≤ y.To + 1
   ·have hst : Bw T (n : Int) (out0 ++ [y], (i : Int)) = some (.inl (out0 ++ [⟨y.From, if y.To < x.To then x.To else y.To⟩], ((i + 1 : Nat) : Int))) := by
     unfold Bw
     dsimp only
     rw [if_pos c1, c2, AN]
     simp only [wk, c3, c4, Bool.or_true, AN, Int.toNat_natCast, hx, gk, w2, w1, decide_eq_true hc, Bool.and_self, if_true]
     simp
    obtain ⟨M, hM⟩ : ∃ M, (if y.To < x.To then x.To else y.To) = M := ⟨_, rfl⟩
    rw [hM] at hst
    have hM1 : y.To ≤ M ∧ x.To ≤ M ∧ (M = y.To ∨ M = x.To) := by
     rw [← hM]; split <;> omega
    rw [Ah hst]
    refine ih (i + 1) (out0 ++ [⟨y.From, M⟩]) (by omega) (by simp at ho ⊢; omega) (fun w hw => ?_) (List.pairwise_append.2 ⟨p1, List.pairwise_singleton _ _, fun w hw v hv => ?_⟩) (fun t => ?_) (fun w hw v hv => ?_)
    ·rcases List.mem_append.1 hw with h | h
     ·exact f w (List.mem_append.2 (.inl h))
     ·rw [List.mem_singleton.1 h]
      refine ⟨hy.1, ?_, ?_⟩
      ·show y.From ≤ M; omega
      ·show M ≤ 1000000000; omega
    ·rw [List.mem_singleton.1 hv]
     exact p3 w hw y (List.mem_singleton.2 rfl)
    ·have := q t
     rw [Fe, Bt] at this
     rw [Fe, Bt, htk, Fe, Bt, ← this]
     have e1 : ¬ EB [] t := FE
     constructor
     ·rintro (h | h | h)
      ·exact .inl (.inl h)
      ·have h : y.From ≤ t ∧ t ≤ M := h
       by_cases g : t ≤ y.To
       ·exact .inl (.inr (.inl ⟨h.1, g⟩))
       ·exact .inr (.inl ⟨by omega, by omega⟩)
      ·exact absurd h e1
     ·rintro ((h | h | h) | h | h)
      ·exact .inl h
      ·exact .inr (.inl ⟨h.1, by show t ≤ M; omega⟩)
      ·exact absurd h e1
      ·exact .inr (.inl ⟨by show y.From ≤ t; omega, by show t ≤ M; omega⟩)
      ·exact absurd h e1
    ·rcases List.mem_append.1 hw with h | h
     ·exact mono w (List.mem_append.2 (.inl h)) v (by rw [hdr]; exact List.mem_cons_of_mem _ hv)
     ·rw [List.mem_singleton.1 h]
      exact mono y (by simp) v (by rw [hdr]; exact List.mem_cons_of_mem _ hv)
   ·refine app (fun w hw => ?_) ?_
    ·rcases List.mem_append.1 hw with h | h
     ·have := p3 w h y (List.mem_singleton.2 rfl); omega
     ·rw [List.mem_singleton.1 h]; omega
    ·unfold Bw
     dsimp only
     rw [if_pos c1, c2, AN]
     simp only [wk, c3, c4, Bool.or_true, AN, Int.toNat_natCast, hx, gk, w2, w1, decide_eq_false hc, Bool.and_false, Bool.false_eq_true, if_false]
     rw [Bu (by simp at ho ⊢; omega), AN]
theorem kQ {a b : List AA} (h : a.Perm b) (f : JJ b) : JJ a := fun w hw => f w (h.mem_iff.1 hw)
theorem kB {a b : List AA} (h : a.Perm b) (t : Int) : EB a t ↔ EB b t := by
 constructor
 ·rintro ⟨w, hw, k⟩; exact ⟨w, h.mem_iff.1 hw, k⟩
 ·rintro ⟨w, hw, k⟩; exact ⟨w, h.mem_iff.2 hw, k⟩
theorem Td {l : List AA} (hl : l.length ≤ 1000000) (hf : JJ l) : ∃ r, GC l = some r ∧ JJ r ∧ Hq r ∧ r.length ≤ l.length ∧ ∀ t, EB r t ↔ EB l t := by
 obtain ⟨d, h1, h2, h3⟩ := cR (l := l) (by omega)
 have hdl : d.length = l.length := h3.length_eq
 obtain ⟨r, k1, k2, k3, k4, k5⟩ := cw l.length d hdl hl h2 (kQ h3 hf) l.length 0 [] (by omega) (by simp) (fun w hw => by cases hw) List.Pairwise.nil (fun t => by simp [EB]) (fun w hw => by cases hw)
 refine ⟨r, ?_, k2, k3, k4, fun t => by rw [k5, kB h3]⟩
 unfold GC Bq
 rw [Option.bind_some, h1, Option.bind_some, hdl]
 have k1' : AJ (Bw d (l.length : Int)) (([] : List AA), 0) = some r := k1
 rw [k1']
 rfl
theorem mU (b : List AA) (hb : b.length ≤ 1000) (fb : JJ b) (x : AA) (fx : 0 ≤ x.From ∧ x.To ≤ 1000000000) (t13 : List AA) (t14 t15 : Int) : ∀ (m i : Nat) (out : List AA), i + m = b.length → out.length ≤ 1000000 + i → JJ out →
  ∃ r, AJ (Db b x t13 t14 t15 b (b.length : Int)) (out, (i : Int)) = some r ∧ JJ r ∧ r.length ≤ out.length + m ∧ ∀ t, EB r t ↔ EB out t ∨ ((x.From ≤ t ∧ t ≤ x.To) ∧ EB (b.drop i) t) := by
 intro m
 induction m with
 | zero =>
  intro i out hi ho f
  refine ⟨out, Ae ?_, f, by omega, fun t => ?_⟩
  ·unfold Db; dsimp only; rw [if_neg (by simp; omega)]
  ·rw [List.drop_eq_nil_of_le (by omega)]
   constructor
   ·exact .inl
   ·rintro (h | ⟨_, h⟩)
    ·exact h
    ·exact absurd h FE
 | succ m ih =>
  intro i out hi ho f
  have hib : i < b.length := by omega
  obtain ⟨y, hy⟩ : ∃ y, b.getD i default = y := ⟨_, rfl⟩
  have hyi : b[i] = y := by rw [← hy, CR hib]
  have fy := fb y (by rw [← hyi]; exact List.getElem_mem hib)
  have hdr : b.drop i = y :: b.drop (i + 1) := by rw [List.drop_eq_getElem_cons hib, hyi]
  have c1 : decide ((i : Int) < (b.length : Int)) = true := decide_eq_true (by omega)
  have c2 : BB (i : Int) b.length = true := by rw [Bp]; exact decide_eq_true hib
  have w1 : IntKind.i64.wrap ((i : Int) + 1) = ((i + 1 : Nat) : Int) := BR (by omega)
  obtain ⟨lo, hlo⟩ : ∃ lo, (if x.From < y.From then y.From else x.From) = lo := ⟨_, rfl⟩
  obtain ⟨hi', hhi⟩ : ∃ hi', (if y.To < x.To then y.To else x.To) = hi' := ⟨_, rfl⟩
  have l1 : x.From ≤ lo ∧ y.From ≤ lo ∧ (lo = x.From ∨ lo = y.From) := by rw [← hlo]; split <;> omega
  have l2 : hi' ≤ x.To ∧ hi' ≤ y.To ∧ (hi' = x.To ∨ hi' = y.To) := by rw [← hhi]; split <;> omega
  by_cases hc : lo ≤ hi'
  ·have hst : Db b x t13 t14 t15 b (b.length : Int) (out, (i : Int)) = some (.inl (out ++ [⟨lo, hi'⟩], ((i + 1 : Nat) : Int))) := by
    unfold Db
    dsimp only
    rw [if_pos c1, c2, AN]
    simp only [Int.toNat_natCast, hy, hlo, hhi, decide_eq_true hc, if_true]
    rw [Bu (by simp; omega), AN, w1]
   rw [Ah hst]
   obtain ⟨r, r1, r2, r3, r4⟩ := ih (i + 1) (out ++ [⟨lo, hi'⟩]) (by omega) (by simp; omega) (fun w hw => by
    rcases List.mem_append.1 hw with h | h
    ·exact f w h
    ·rw [List.mem_singleton.1 h]
     refine ⟨?_, hc, ?_⟩
     ·show 0 ≤ lo; omega
     ·show hi' ≤ 1000000000; omega)
   refine ⟨r, r1, r2, by simp at r3; omega, fun t => ?_⟩
   rw [r4, Fe, Bt, hdr, Bt]
   have e1 : ¬ EB [] t := FE
   constructor
   ·rintro ((h | h | h) | h)
    ·exact .inl h
    ·have h : lo ≤ t ∧ t ≤ hi' := h
     exact .inr ⟨⟨by omega, by omega⟩, .inl ⟨by omega, by omega⟩⟩
    ·exact absurd h e1
    ·exact .inr ⟨h.1, .inr h.2⟩
   ·rintro (h | ⟨h, k | k⟩)
    ·exact .inl (.inl h)
    ·exact .inl (.inr (.inl ⟨by show lo ≤ t; omega, by show t ≤ hi'; omega⟩))
    ·exact .inr ⟨h, k⟩
  ·have hst : Db b x t13 t14 t15 b (b.length : Int) (out, (i : Int)) = some (.inl (out, ((i + 1 : Nat) : Int))) := by
    unfold Db
    dsimp only
    rw [if_pos c1, c2, AN]
    simp only [Int.toNat_natCast, hy, hlo, hhi, decide_eq_false hc, Bool.false_eq_true, if_false, w1]
   rw [Ah hst]
   obtain ⟨r, r1, r2, r3, r4⟩ := ih (i + 1) out (by omega) (by omega) f
   refine ⟨r, r1, r2, by omega, fun t => ?_⟩
   rw [r4, hdr, Bt]
   constructor
   ·rintro (h | h)
    ·exact .inl h
    ·exact .inr ⟨h.1, .inr h.2⟩
   ·rintro (h | ⟨h, k | k⟩)
    ·exact .inl h
    ·exact absurd (show lo ≤ hi' by omega) hc
    ·exact .inr ⟨h, k⟩
theorem gi (b : List AA) (hb : b.length ≤ 1000) (fb : JJ b) (a : List AA) (ha : a.length ≤ 1000) (fa : JJ a) : ∀ (m i : Nat) (out : List AA), i + m = a.length → out.length ≤ i * 1000 → JJ out →
  ∃ r, AJ (Ea b a (a.length : Int)) (out, (i : Int)) = some r ∧ JJ r ∧ r.length ≤ 1000000 ∧ ∀ t, EB r t ↔ EB out t ∨ (EB (a.drop i) t ∧ EB b t) := by
 intro m
 induction m with
 | zero =>
  intro i out hi ho f
  refine ⟨out, Ae ?_, f, by omega, fun t => ?_⟩
  ·unfold Ea; dsimp only; rw [if_neg (by simp; omega)]
  ·rw [List.drop_eq_nil_of_le (by omega)]
   constructor
   ·exact .inl
   ·rintro (h | ⟨h, _⟩)
    ·exact h
    ·exact absurd h FE
 | succ m ih =>
  intro i out hi ho f
  have hia : i < a.length := by omega
  obtain ⟨x, hx⟩ : ∃ x, a.getD i default = x := ⟨_, rfl⟩
  have hxi : a[i] = x := by rw [← hx, CR hia]
  have fx := fa x (by rw [← hxi]; exact List.getElem_mem hia)
  have hdr : a.drop i = x :: a.drop (i + 1) := by rw [List.drop_eq_getElem_cons hia, hxi]
  have c1 : decide ((i : Int) < (a.length : Int)) = true := decide_eq_true (by omega)
  have c2 : BB (i : Int) a.length = true := by rw [Bp]; exact decide_eq_true hia
  have w1 : IntKind.i64.wrap ((i : Int) + 1) = ((i + 1 : Nat) : Int) := BR (by omega)
  obtain ⟨r, r1, r2, r3, r4⟩ := mU b hb fb x ⟨fx.1, fx.2.2⟩ a (a.length : Int) (i : Int) b.length 0 out (by omega) (by omega) f
  have r1' : AJ (Db b x a (a.length : Int) (i : Int) b (b.length : Int)) (out, 0) = some r := r1
  have hst : Ea b a (a.length : Int) (out, (i : Int)) = some (.inl (r, ((i + 1 : Nat) : Int))) := by
   unfold Ea
   dsimp only
   rw [if_pos c1, c2, AN]
   simp only [Int.toNat_natCast, hx]
   rw [r1', Option.bind_some, w1]
  rw [Ah hst]
  obtain ⟨r', s1, s2, s3, s4⟩ := ih (i + 1) r (by omega) (by omega) r2
  refine ⟨r', s1, s2, s3, fun t => ?_⟩
  rw [s4, r4, hdr, Bt, List.drop_zero]
  constructor
  ·rintro ((h | h) | h)
   ·exact .inl h
   ·exact .inr ⟨.inl h.1, h.2⟩
   ·exact .inr ⟨.inr h.1, h.2⟩
  ·rintro (h | ⟨h | h, k⟩)
   ·exact .inl (.inl h)
   ·exact .inl (.inr ⟨h, k⟩)
   ·exact .inr ⟨h, k⟩
theorem mT {a b : List AA} (ha : a.length ≤ 1000) (hb : b.length ≤ 1000) (fa : JJ a) (fb : JJ b) : ∃ r, HO a b = some r ∧ JJ r ∧ Hq r ∧ r.length ≤ 1000000 ∧ ∀ t, EB r t ↔ EB a t ∧ EB b t := by
 obtain ⟨o, h1, h2, h3, h4⟩ := gi b hb fb a ha fa a.length 0 [] (by omega) (by simp) (fun w hw => by cases hw)
 obtain ⟨r, k1, k2, k3, k4, k5⟩ := Td h3 h2
 refine ⟨r, ?_, k2, k3, by omega, fun t => ?_⟩
 ·unfold HO
  have h1' : AJ (Ea b a (a.length : Int)) (([] : List AA), 0) = some o := h1
  rw [h1', Option.bind_some, k1]
  rfl
 ·rw [k5, h4, List.drop_zero]
  constructor
  ·rintro (h | h)
   ·exact absurd h FE
   ·exact h
  ·exact .inr
theorem WF (a : List AA) (T : List AA) (n : Nat) (hT : T.length = n) (hn : n ≤ 900) (fT : JJ T) (pT : Hq T) : ∀ (m i : Nat) (rest : List AA) (from_ : Int), i + m = n → rest.length ≤ i → JJ rest → 0 ≤ from_ → from_ ≤ 1000000001 →
  (∀ v ∈ T.drop i, from_ ≤ v.From) → (∀ t, EB rest t ↔ 0 ≤ t ∧ t < from_ ∧ ¬ EB (T.take i) t) → (∀ t, EB (T.take i) t → t < from_) →
  ∃ r f', AJ (CU a T (n : Int)) (rest, from_, (i : Int)) = some (r, f') ∧ JJ r ∧ r.length ≤ n ∧ 0 ≤ f' ∧ (∀ t, EB r t ↔ 0 ≤ t ∧ t < f' ∧ ¬ EB T t) ∧ ∀ t, EB T t → t < f' := by
 intro m
 induction m with
 | zero =>
  intro i rest from_ hi ho f h0 h1 up q r
  refine ⟨rest, from_, Ae ?_, f, by omega, h0, fun t => ?_, fun t ht => r t ?_⟩
  ·unfold CU; dsimp only; rw [if_neg (by simp; omega)]
  ·rw [q, List.take_of_length_le (by omega)]
  ·rw [List.take_of_length_le (by omega)]; exact ht
 | succ m ih =>
  intro i rest from_ hi ho f h0 h1 up q r
  have hiT : i < T.length := by omega
  obtain ⟨x, hx⟩ : ∃ x, T.getD i default = x := ⟨_, rfl⟩
  have hxi : T[i] = x := by rw [← hx, CR hiT]
  have fx := fT x (by rw [← hxi]; exact List.getElem_mem hiT)
  have htk : T.take (i + 1) = T.take i ++ [x] := by rw [List.take_succ_eq_append_getElem hiT, hxi]
  have hdr : T.drop i = x :: T.drop (i + 1) := by rw [List.drop_eq_getElem_cons hiT, hxi]
  have hux := up x (by rw [hdr]; exact List.mem_cons_self)
  have hup : ∀ v ∈ T.drop (i + 1), x.To + 1 ≤ v.From := by
   have := List.Pairwise.sublist (List.drop_sublist i T) pT
   rw [hdr] at this
   intro v hv
   have := (List.pairwise_cons.1 this).1 v hv
   omega
  have c1 : decide ((i : Int) < (n : Int)) = true := decide_eq_true (by omega)
  have c2 : BB (i : Int) T.length = true := by rw [Bp]; exact decide_eq_true hiT
  have w1 : IntKind.i64.wrap ((i : Int) + 1) = ((i + 1 : Nat) : Int) := BR (by omega)
  have w2 : IntKind.i64.wrap (x.To + 1) = x.To + 1 := AX (by omega) (by omega)
  have w3 : IntKind.i64.wrap (x.From - 1) = x.From - 1 := AX (by omega) (by omega)
  have r' : ∀ t, EB (T.take (i + 1)) t → t < x.To + 1 := fun t ht => by
   rw [htk, Fe, Bt] at ht
   rcases ht with h | h | h
   ·have := r t h; omega
   ·omega
   ·exact absurd h FE
  have core : ∀ t, (0 ≤ t ∧ t < x.To + 1 ∧ ¬ EB (T.take (i + 1)) t) ↔ (0 ≤ t ∧ t < from_ ∧ ¬ EB (T.take i) t) ∨ (from_ ≤ t ∧ t ≤ x.From - 1) := fun t => by
   rw [htk, Fe, Bt]
   have e1 : ¬ EB [] t := FE
   have rt := r t
   constructor
   ·rintro ⟨g1, g2, g3⟩
    by_cases g : t < from_
    ·exact .inl ⟨g1, g, fun c => g3 (.inl c)⟩
    ·refine .inr ⟨by omega, ?_⟩
     rcases Int.lt_or_le (x.From - 1) t with c | c
     ·exact absurd (.inr (.inl ⟨by omega, by omega⟩)) g3
     ·exact c
   ·rintro (⟨g1, g2, g3⟩ | ⟨g1, g2⟩)
    ·refine ⟨g1, by omega, ?_⟩
     rintro (c | c | c)
     ·exact g3 c
     ·omega
     ·exact e1 c
    ·refine ⟨by omega, by omega, ?_⟩
     rintro (c | c | c)
     ·have := rt c; omega
     ·omega
     ·exact e1 c
  by_cases hc : from_ < x.From
  ·have hst : CU a T (n : Int) (rest, from_, (i : Int)) = some (.inl (rest ++ [⟨from_, x.From - 1⟩], x.To + 1, ((i + 1 : Nat) : Int))) := by
    unfold CU
    dsimp only
    rw [if_pos c1, c2, AN]
    simp only [Int.toNat_natCast, hx, decide_eq_true hc, if_true, w1, w2, w3]
    rw [Bu (by simp; omega), AN]
   rw [Ah hst]
   refine ih (i + 1) _ _ (by omega) (by simp; omega) (fun w hw => ?_) (by omega) (by omega) hup (fun t => ?_) r'
   ·rcases List.mem_append.1 hw with h | h
    ·exact f w h
    ·rw [List.mem_singleton.1 h]
     refine ⟨h0, ?_, ?_⟩
     ·show from_ ≤ x.From - 1; omega
     ·show x.From - 1 ≤ 1000000000; omega
   ·rw [core, Fe, Bt, q]
    have e1 : ¬ EB [] t := FE
    constructor
    ·rintro (h | h | h)
     ·exact .inl h
     ·exact .inr h
     ·exact absurd h e1
    ·rintro (h | h)
     ·exact .inl h
     ·exact .inr (.inl h)
  ·have hst : CU a T (n : Int) (rest, from_, (i : Int)) = some (.inl (rest, x.To + 1, ((i + 1 : Nat) : Int))) := by
    unfold CU
    dsimp only
    rw [if_pos c1, c2, AN]
    simp only [Int.toNat_natCast, hx, decide_eq_false hc, Bool.false_eq_true, if_false, w1, w2, w3]
   rw [Ah hst]
   refine ih (i + 1) _ _ (by omega) (by omega) f (by omega) (by omega) hup (fun t => ?_) r'
   rw [core, q]
   constructor
   ·exact .inl
   ·rintro (h | h)
    ·exact h
    ·omega
theorem ZZ {a b : List AA} (ha : a.length ≤ 1000) (hb : b.length ≤ 900) (fa : JJ a) (fb : JJ b) (ta : ∀ w ∈ a, w.To ≤ 10000000) : ∃ r, Gx a b = some r ∧ JJ r ∧ Hq r ∧ r.length ≤ 1000000 ∧ ∀ t, EB r t ↔ EB a t ∧ ¬ EB b t := by
 obtain ⟨T, h1, h2, h3, h4, h5⟩ := Td (l := b) (by omega) fb
 obtain ⟨rest, f', k1, k2, k3, k4, k5, k6⟩ := WF a T T.length rfl (by omega) h2 h3 T.length 0 [] 0 (by omega) (by simp) (fun w hw => by cases hw) (by omega) (by omega)
  (fun v hv => (h2 v (by simpa using hv)).1) (fun t => by
   constructor
   ·intro h; exact absurd h FE
   ·rintro ⟨c1, c2, _⟩; omega) (fun t h => absurd h (by simp [EB]))
 have k1' : AJ (CU a T (T.length : Int)) (([] : List AA), 0, 0) = some (rest, f') := k1
 have fin : ∀ rest' : List AA, rest'.length ≤ 1000 → JJ rest' → (∀ t, t ≤ 10000000 → (EB rest' t ↔ 0 ≤ t ∧ ¬ EB b t)) → ∃ r, HO a rest' = some r ∧ JJ r ∧ Hq r ∧ r.length ≤ 1000000 ∧ ∀ t, EB r t ↔ EB a t ∧ ¬ EB b t := by
  intro rest' l' f'' q
  obtain ⟨r, m1, m2, m3, m4, m5⟩ := mT ha l' fa f''
  refine ⟨r, m1, m2, m3, m4, fun t => ?_⟩
  rw [m5]
  constructor
  ·rintro ⟨g, g2⟩
   obtain ⟨w, hw, hk⟩ := g
   have := ta w hw
   exact ⟨⟨w, hw, hk⟩, ((q t (by omega)).1 g2).2⟩
  ·rintro ⟨g, g2⟩
   obtain ⟨w, hw, hk⟩ := g
   have := ta w hw
   have := (fa w hw).1
   exact ⟨⟨w, hw, hk⟩, (q t (by omega)).2 ⟨by omega, g2⟩⟩
 unfold Gx
 rw [h1, Option.bind_some, k1', Option.bind_some]
 dsimp only
 by_cases hc : f' ≤ 10000000
 ·rw [if_pos (decide_eq_true hc), Bu (by simp; omega), AN]
  obtain ⟨r, m1, m2⟩ := fin (rest ++ [⟨f', 10000000⟩]) (by simp; omega) (fun w hw => by
   rcases List.mem_append.1 hw with h | h
   ·exact k2 w h
   ·rw [List.mem_singleton.1 h]; exact ⟨k4, hc, by show (10000000 : Int) ≤ 1000000000; omega⟩) (fun t ht => by
   rw [Fe, Bt, k5, h5]
   have e1 : ¬ EB [] t := FE
   have k6 := k6 t
   rw [h5] at k6
   constructor
   ·rintro (⟨c1, c2, c3⟩ | c | c)
    ·exact ⟨c1, c3⟩
    ·have c : f' ≤ t ∧ t ≤ 10000000 := c
     exact ⟨by omega, fun d => by have := k6 d; omega⟩
    ·exact absurd c e1
   ·rintro ⟨c1, c2⟩
    by_cases g : t < f'
    ·exact .inl ⟨c1, g, c2⟩
    ·exact .inr (.inl ⟨by show f' ≤ t; omega, ht⟩))
  exact ⟨r, by rw [m1]; rfl, m2⟩
 ·rw [if_neg (by simpa using hc)]
  obtain ⟨r, m1, m2⟩ := fin rest (by omega) k2 (fun t ht => by
   rw [k5, h5]
   constructor
   ·rintro ⟨c1, _, c3⟩; exact ⟨c1, c3⟩
   ·rintro ⟨c1, c2⟩; exact ⟨c1, by omega, c2⟩)
  exact ⟨r, by rw [m1]; rfl, m2⟩
end Go.Proofs.YthdmeanbdohehaaGreatDoor
namespace Go.Proofs.YthdmeanbdohehaaGreatDoor
open Go Go.RowKit
set_option linter.unusedSimpArgs false
set_option linter.unusedVariables false
def Tz (w : AA) (t : Int) : Bool := decide (w.From ≤ t) && decide (t ≤ w.To)
def Yi (l : List AA) (t : Int) : Bool := l.any fun w => Tz w t
theorem KE {l : List AA} {t : Int} : Yi l t = true ↔ EB l t := by
 unfold Yi EB Tz
 simp only [List.any_eq_true, Bool.and_eq_true, decide_eq_true_eq]
theorem Nm {l : List AA} (hl : l.length ≤ 1000000) (t : Int) : HL l t = some (Yi l t) := by
 unfold HL
 rw [JK (step := FO l t) (fun i => !Tz (l.getD i default) t) l.length (!Yi l t) (yes := .inl ()) (no := .inr true) (by
  unfold Yi
  rw [Bool.not_eq_true', ← Bool.not_eq_true, List.any_eq_true]
  constructor
  ·intro h i hi
   rw [Bool.not_eq_true', ← Bool.not_eq_true]
   exact fun c => h ⟨_, Fq hi default, c⟩
  ·rintro h ⟨w, hw, c⟩
   obtain ⟨i, hi, rfl⟩ := List.mem_iff_getElem.1 hw
   have := h i hi
   rw [CR hi, c] at this
   cases this) (fun i hi => by
  simp only [FO, HU, Int.ofNat_lt, hi, decide_true, if_true, Bp, AN, Int.toNat_natCast, Option.bind_some, BR (show i < 9223372036854775807 by omega)]
  show (if Tz (l.getD i default) t = true then _ else _) = _
  cases Tz (l.getD i default) t <;> rfl) (by simp [FO])]
 cases Yi l t <;> rfl
def UO (l : List AA) (x : Int) : Prop := ∃ w ∈ l, x = w.From ∨ x = w.To + 1
theorem Vs {l : List AA} (hl : l.length ≤ 1000) (fl : JJ l) {step : (List Int × Int) → Option ((List Int × Int) ⊕ List Int)}
  (hs : ∀ (c : List Int) (i : Nat), step (c, (i : Int)) = if (decide ((i : Int) < (l.length : Int))) then
   ck (BB (i : Int) l.length) <|
   (EH c ((l.getD (i : Int).toNat default).From)).bind fun y_3 =>
   (EH y_3 (IntKind.i64.wrap (((l.getD (i : Int).toNat default).To) + 1))).bind fun y_4 =>
   some (.inl (y_4, (IntKind.i64.wrap ((i : Int) + 1))))
  else
   some (.inr c)) : ∀ (m i : Nat) (c : List Int), i + m = l.length → lJ c → c.length ≤ 10000 + 2 * i →
  ∃ r, AJ step (c, (i : Int)) = some r ∧ lJ r ∧ r.length ≤ c.length + 2 * m ∧ ∀ x, x ∈ r ↔ x ∈ c ∨ UO (l.drop i) x := by
 intro m
 induction m with
 | zero =>
  intro i c hi hu hc
  refine ⟨c, Ae ?_, hu, by omega, fun x => ?_⟩
  ·rw [hs, if_neg (by simp; omega)]
  ·rw [List.drop_eq_nil_of_le (by omega)]
   constructor
   ·exact .inl
   ·rintro (h | ⟨w, h, _⟩)
    ·exact h
    ·cases h
 | succ m ih =>
  intro i c hi hu hc
  have hil : i < l.length := by omega
  obtain ⟨w, hw⟩ : ∃ w, l.getD i default = w := ⟨_, rfl⟩
  have hwi : l[i] = w := by rw [← hw, CR hil]
  have fw := fl w (by rw [← hwi]; exact List.getElem_mem hil)
  have hdr : l.drop i = w :: l.drop (i + 1) := by rw [List.drop_eq_getElem_cons hil, hwi]
  obtain ⟨c1, e1, u1, n1, m1⟩ := gO (l := c) (by omega) hu w.From
  obtain ⟨c2, e2, u2, n2, m2⟩ := gO (l := c1) (by omega) u1 (w.To + 1)
  have w1 : IntKind.i64.wrap (w.To + 1) = w.To + 1 := AX (by omega) (by omega)
  have hst : step (c, (i : Int)) = some (.inl (c2, ((i + 1 : Nat) : Int))) := by
   rw [hs, if_pos (decide_eq_true (by omega)), Bp, decide_eq_true hil, AN, Int.toNat_natCast, hw, e1, Option.bind_some, w1, e2, Option.bind_some, BR (by omega)]
  rw [Ah hst]
  obtain ⟨r, r1, r2, r3, r4⟩ := ih (i + 1) c2 (by omega) u2 (by omega)
  refine ⟨r, r1, r2, by omega, fun x => ?_⟩
  rw [r4, m2, m1, hdr]
  unfold UO
  constructor
  ·rintro ((h | h | h) | ⟨v, hv, k⟩)
   ·exact .inr ⟨w, List.mem_cons_self, .inr h⟩
   ·exact .inr ⟨w, List.mem_cons_self, .inl h⟩
   ·exact .inl h
   ·exact .inr ⟨v, List.mem_cons_of_mem _ hv, k⟩
  ·rintro (h | ⟨v, hv, k⟩)
   ·exact .inl (.inr (.inr h))
   ·rcases List.mem_cons.1 hv with rfl | hv
    ·rcases k with k | k
     ·exact .inl (.inr (.inl k))
     ·exact .inl (.inl k)
    ·exact .inr ⟨v, hv, k⟩
theorem cq {a b : List AA} (ha : a.length ≤ 1000) (hb : b.length ≤ 1000) (fa : JJ a) (fb : JJ b) {c : List Int} (hu : lJ c) (hc : c.length ≤ 10000) (hm : ∀ x, x ∈ c ↔ UO a x ∨ UO b x) :
  ∀ (m i : Nat) (out : List AA), i + m = c.length → (i < c.length ∨ c = []) → out.length ≤ i → JJ out → Hq out → (∀ w ∈ out, i < c.length ∧ w.To + 1 ≤ c.getD i default) →
   (∀ u, EB out u ↔ (EB a u ∧ ¬ EB b u) ∧ i < c.length ∧ u < c.getD i default) →
  ∃ r, AJ (BW a b 3 c) (out, (i : Int)) = some r ∧ JJ r ∧ Hq r ∧ r.length ≤ c.length ∧ ∀ u, EB r u ↔ EB a u ∧ ¬ EB b u := by
 have hpair := List.pairwise_iff_getElem.1 hu
 have bounds : ∀ x ∈ c, 0 ≤ x ∧ x ≤ 1000000001 := fun x hx => by
  rcases (hm x).1 hx with ⟨w, hw, k⟩ | ⟨w, hw, k⟩
  ·have := fa w hw; rcases k with k | k <;> omega
  ·have := fb w hw; rcases k with k | k <;> omega
 intro m
 induction m with
 | zero =>
  intro i out hi hi2 ho f p ht q
  have hc0 : c = [] := by
   rcases hi2 with h | h
   ·omega
   ·exact h
  have ho0 : ∀ w, w ∉ out := fun w hw => by have := (ht w hw).1; rw [hc0] at this; simp at this
  refine ⟨out, Ae ?_, f, p, by omega, fun u => ?_⟩
  ·unfold BW
   dsimp only
   rw [BR (by omega), if_neg (by simp; omega)]
  ·constructor
   ·rintro ⟨w, hw, _⟩; exact absurd hw (ho0 w)
   ·rintro ⟨⟨w, hw, k⟩, _⟩
    have := (hm w.From).2 (.inl ⟨w, hw, .inl rfl⟩)
    rw [hc0] at this; cases this
 | succ m ih =>
  intro i out hi hi2 ho f p ht q
  have hic : i < c.length := by omega
  obtain ⟨x, hx⟩ : ∃ x, c.getD i default = x := ⟨_, rfl⟩
  have hxi : c[i] = x := by rw [← hx, CR hic]
  have hxm : x ∈ c := by rw [← hxi]; exact List.getElem_mem hic
  have bx := bounds x hxm
  have w1 : IntKind.i64.wrap ((i : Int) + 1) = ((i + 1 : Nat) : Int) := BR (by omega)
  rw [hx] at ht q
  have q' : ∀ u, EB out u ↔ (EB a u ∧ ¬ EB b u) ∧ u < x := fun u => by
   rw [q]
   constructor
   ·rintro ⟨h, _, k⟩; exact ⟨h, k⟩
   ·rintro ⟨h, k⟩; exact ⟨h, hic, k⟩
  by_cases hn : i + 1 < c.length
  ·obtain ⟨z, hz⟩ : ∃ z, c.getD (i + 1) default = z := ⟨_, rfl⟩
   have hzi : c[i + 1] = z := by rw [← hz, CR hn]
   have bz := bounds z (by rw [← hzi]; exact List.getElem_mem hn)
   have hxz : x < z := by rw [← hxi, ← hzi]; exact hpair i (i + 1) hic hn (by omega)
   have gap : ∀ y ∈ c, y ≤ x ∨ z ≤ y := fun y hy => by
    obtain ⟨j, hj, rfl⟩ := List.mem_iff_getElem.1 hy
    rcases Nat.lt_trichotomy j i with h | h | h
    ·have := hpair j i hj hic h; left; omega
    ·subst h; left; omega
    ·right
     rcases Nat.lt_or_ge (i + 1) j with g | g
     ·have := hpair (i + 1) j hn hj g; omega
     ·have : j = i + 1 := by omega
      subst this; omega
   have same : ∀ (l : List AA), (∀ y, UO l y → y ∈ c) → ∀ u, x ≤ u → u < z → (EB l u ↔ EB l x) := fun l hl u h1 h2 => by
    constructor
    ·rintro ⟨w, hw, k1, k2⟩
     rcases gap _ (hl _ ⟨w, hw, .inl rfl⟩) with g | g
     ·exact ⟨w, hw, g, by omega⟩
     ·omega
    ·rintro ⟨w, hw, k1, k2⟩
     rcases gap _ (hl _ ⟨w, hw, .inr rfl⟩) with g | g
     ·omega
     ·exact ⟨w, hw, by omega, by omega⟩
   have sa := same a fun y hy => (hm y).2 (.inl hy)
   have sb := same b fun y hy => (hm y).2 (.inr hy)
   have c1 : decide (((i + 1 : Nat) : Int) < (c.length : Int)) = true := decide_eq_true (by omega)
   have wz : IntKind.i64.wrap (z - 1) = z - 1 := AX (by omega) (by omega)
   by_cases hD : EB a x ∧ ¬ EB b x
   ·have eA : Yi a x = true := KE.2 hD.1
    have eB : Yi b x = false := by rw [← Bool.not_eq_true]; exact fun h => hD.2 (KE.1 h)
    have times : ∀ u, ((EB a u ∧ ¬ EB b u) ∧ u < z) ↔ ((EB a u ∧ ¬ EB b u) ∧ u < x) ∨ (x ≤ u ∧ u ≤ z - 1) := fun u => by
     constructor
     ·rintro ⟨h, k⟩
      by_cases g : u < x
      ·exact .inl ⟨h, g⟩
      ·exact .inr ⟨by omega, by omega⟩
     ·rintro (⟨h, k⟩ | ⟨h, k⟩)
      ·exact ⟨h, by omega⟩
      ·refine ⟨⟨(sa u h (by omega)).2 hD.1, fun g => hD.2 ((sb u h (by omega)).1 g)⟩, by omega⟩
    have go : ∀ out', BW a b 3 c (out, (i : Int)) = some (.inl (out', ((i + 1 : Nat) : Int))) → out'.length ≤ i + 1 → JJ out' → Hq out' → (∀ w ∈ out', w.To + 1 ≤ z) →
      (∀ u, EB out' u ↔ EB out u ∨ (x ≤ u ∧ u ≤ z - 1)) → ∃ r, AJ (BW a b 3 c) (out, (i : Int)) = some r ∧ JJ r ∧ Hq r ∧ r.length ≤ c.length ∧ ∀ u, EB r u ↔ EB a u ∧ ¬ EB b u := by
     intro out' hst g1 g2 g3 g4 g5
     rw [Ah hst]
     refine ih (i + 1) out' (by omega) (.inl hn) g1 g2 g3 (fun w hw => ⟨hn, by rw [hz]; exact g4 w hw⟩) (fun u => ?_)
     rw [hz, g5, q', ← times]
     constructor
     ·rintro ⟨h, k⟩; exact ⟨h, hn, k⟩
     ·rintro ⟨h, _, k⟩; exact ⟨h, k⟩
    have head : BW a b 3 c (out, (i : Int)) = (ck (!(decide (0 < (out.length : Int))) || BB (IntKind.i64.wrap ((out.length : Int) - 1)) out.length) <|
      if ((decide (0 < (out.length : Int))) && ((IntKind.i64.wrap (((out.getD (IntKind.i64.wrap ((out.length : Int) - 1)).toNat default).To) + 1)) == x)) then
       ck (BB (IntKind.i64.wrap ((out.length : Int) - 1)) out.length) <|
       some (.inl ((out.set ((IntKind.i64.wrap ((out.length : Int) - 1)).toNat) (AA.mk ((out.getD (IntKind.i64.wrap ((out.length : Int) - 1)).toNat default).From) (z - 1))), ((i + 1 : Nat) : Int)))
      else
       ck (Cr (out.length + ([(AA.mk x (z - 1))] : List AA).length) 16) <|
       some (.inl ((out ++ ([(AA.mk x (z - 1))] : List AA)), ((i + 1 : Nat) : Int)))) := by
     unfold BW
     dsimp only
     rw [w1, if_pos c1, Bp, decide_eq_true hic, AN]
     have k1 : BB ((i + 1 : Nat) : Int) c.length = true := by rw [Bp]; exact decide_eq_true hn
     simp only [Int.toNat_natCast, hx, hz, wz, k1, AN, Nm (show a.length ≤ 1000000 by omega), Nm (show b.length ≤ 1000000 by omega), Option.bind_some, eA, eB]
     rfl
    have apnd : (∀ w ∈ out, w.To + 1 < x) → BW a b 3 c (out, (i : Int)) = some (.inl (out ++ [⟨x, z - 1⟩], ((i + 1 : Nat) : Int))) → ∃ r, AJ (BW a b 3 c) (out, (i : Int)) = some r ∧ JJ r ∧ Hq r ∧ r.length ≤ c.length ∧ ∀ u, EB r u ↔ EB a u ∧ ¬ EB b u := by
     intro hlt hst
     refine go (out ++ [⟨x, z - 1⟩]) hst (by simp; omega) (fun w hw => ?_) (List.pairwise_append.2 ⟨p, List.pairwise_singleton _ _, fun w hw v hv => by rw [List.mem_singleton.1 hv]; exact hlt w hw⟩) (fun w hw => ?_) (fun u => ?_)
     ·rcases List.mem_append.1 hw with h | h
      ·exact f w h
      ·rw [List.mem_singleton.1 h]
       refine ⟨bx.1, ?_, ?_⟩
       ·show x ≤ z - 1; omega
       ·show z - 1 ≤ 1000000000; omega
     ·rcases List.mem_append.1 hw with h | h
      ·have := (ht w h).2; omega
      ·rw [List.mem_singleton.1 h]; show z - 1 + 1 ≤ z; omega
     ·rw [Fe, Bt]
      constructor
      ·rintro (h | h | h)
       ·exact .inl h
       ·exact .inr h
       ·exact absurd h FE
      ·rintro (h | h)
       ·exact .inl h
       ·exact .inr (.inl h)
    rcases List.eq_nil_or_concat out with rfl | ⟨out0, y, rfl⟩
    ·refine apnd (fun w hw => by cases hw) ?_
     rw [head]
     simp only [List.length_nil, Int.natCast_zero, Int.lt_irrefl, decide_false, Bool.not_false, Bool.true_or, AN, Bool.false_and, Bool.false_eq_true, if_false, List.nil_append]
     rw [Bu (by simp), AN]
    ·rw [List.concat_eq_append] at *
     have hlen : (out0 ++ [y]).length = out0.length + 1 := by simp
     have hy := f y (by simp)
     have hyt := (ht y (by simp)).2
     have wk : IntKind.i64.wrap (((out0 ++ [y]).length : Int) - 1) = (out0.length : Int) := by
      rw [AX (by omega) (by omega)]; omega
     have gk : (out0 ++ [y]).getD out0.length default = y := by simp [List.getD_eq_getElem?_getD]
     have c3 : decide ((0 : Int) < ((out0 ++ [y]).length : Int)) = true := decide_eq_true (by omega)
     have c4 : BB (out0.length : Int) (out0 ++ [y]).length = true := by rw [Bp]; simp
     have w2 : IntKind.i64.wrap (y.To + 1) = y.To + 1 := AX (by omega) (by omega)
     obtain ⟨p1, _, p3⟩ := List.pairwise_append.1 p
     by_cases hj : y.To + 1 = x
     ·refine go (out0 ++ [⟨y.From, z - 1⟩]) ?_ (by simp at ho ⊢; omega) (fun w hw => ?_) (List.pairwise_append.2 ⟨p1, List.pairwise_singleton _ _, fun w hw v hv => ?_⟩) (fun w hw => ?_) (fun u => ?_)
      ·rw [head]
       have w2' : IntKind.i64.wrap x = x := by rw [← hj]; exact w2
       simp only [wk, c3, c4, Bool.or_true, AN, Int.toNat_natCast, gk, hj, w2', beq_self_eq_true, Bool.and_self, if_true]
       simp
      ·rcases List.mem_append.1 hw with h | h
       ·exact f w (List.mem_append.2 (.inl h))
       ·rw [List.mem_singleton.1 h]
        refine ⟨hy.1, ?_, ?_⟩
        ·show y.From ≤ z - 1; omega
        ·show z - 1 ≤ 1000000000; omega
      ·rw [List.mem_singleton.1 hv]
       exact p3 w hw y (List.mem_singleton.2 rfl)
      ·rcases List.mem_append.1 hw with h | h
       ·have := (ht w (List.mem_append.2 (.inl h))).2; omega
       ·rw [List.mem_singleton.1 h]; show z - 1 + 1 ≤ z; omega
      ·rw [Fe, Bt, Fe, Bt]
       have e1 : ¬ EB [] u := FE
       constructor
       ·rintro (h | h | h)
        ·exact .inl (.inl h)
        ·have h : y.From ≤ u ∧ u ≤ z - 1 := h
         by_cases g : u ≤ y.To
         ·exact .inl (.inr (.inl ⟨h.1, g⟩))
         ·exact .inr ⟨by omega, h.2⟩
        ·exact absurd h e1
       ·rintro ((h | h | h) | h)
        ·exact .inl h
        ·exact .inr (.inl ⟨h.1, by show u ≤ z - 1; omega⟩)
        ·exact absurd h e1
        ·exact .inr (.inl ⟨by show y.From ≤ u; omega, h.2⟩)
     ·refine apnd (fun w hw => ?_) ?_
      ·rcases List.mem_append.1 hw with h | h
       ·have := p3 w h y (List.mem_singleton.2 rfl); omega
       ·rw [List.mem_singleton.1 h]; omega
      ·rw [head]
       have e : ((y.To + 1) == x) = false := by simpa using hj
       simp only [wk, c3, c4, Bool.or_true, AN, Int.toNat_natCast, gk, w2, e, Bool.and_false, Bool.false_eq_true, if_false]
       rw [Bu (by simp at ho ⊢; omega), AN]
   ·have hst : BW a b 3 c (out, (i : Int)) = some (.inl (out, ((i + 1 : Nat) : Int))) := by
     unfold BW
     dsimp only
     rw [w1, if_pos c1, Bp, decide_eq_true hic, AN]
     simp only [Int.toNat_natCast, hx, Nm (show a.length ≤ 1000000 by omega), Nm (show b.length ≤ 1000000 by omega), Option.bind_some]
     have : ((!Yi a x) || Yi b x) = true := by
      rw [← @KE a, ← @KE b] at hD
      cases h1 : Yi a x <;> cases h2 : Yi b x <;> simp_all
     rw [this]
     rfl
    rw [Ah hst]
    refine ih (i + 1) out (by omega) (.inl hn) (by omega) f p (fun w hw => ⟨hn, by rw [hz]; have := (ht w hw).2; omega⟩) (fun u => ?_)
    rw [hz, q']
    constructor
    ·rintro ⟨h, k⟩; exact ⟨h, hn, by omega⟩
    ·rintro ⟨h, _, k⟩
     refine ⟨h, ?_⟩
     rcases Int.lt_or_le u x with g | g
     ·exact g
     ·exact absurd ⟨(sa u g k).1 h.1, fun e => h.2 ((sb u g k).2 e)⟩ hD
  ·refine ⟨out, Ae ?_, f, p, by omega, fun u => ?_⟩
   ·unfold BW
    dsimp only
    rw [w1, if_neg (by simp; omega)]
   ·rw [q']
    constructor
    ·exact fun h => h.1
    ·rintro ⟨⟨w, hw, k1, k2⟩, h⟩
     refine ⟨⟨⟨w, hw, k1, k2⟩, h⟩, ?_⟩
     have hmem := (hm (w.To + 1)).2 (.inl ⟨w, hw, .inr rfl⟩)
     obtain ⟨j, hj, e⟩ := List.mem_iff_getElem.1 hmem
     rcases Nat.lt_or_ge j i with g | g
     ·have := hpair j i hj hic g; omega
     ·have : j = i := by omega
      subst this; omega
theorem bN {a b : List AA} (ha : a.length ≤ 1000) (hb : b.length ≤ 1000) (fa : JJ a) (fb : JJ b) : ∃ r, Fy a b 3 = some r ∧ JJ r ∧ Hq r ∧ r.length ≤ 2 * (a.length + b.length) ∧ ∀ u, EB r u ↔ EB a u ∧ ¬ EB b u := by
 obtain ⟨c1, e1, u1, n1, m1⟩ := Vs ha fa (step := FJ a b 3) (fun c i => rfl) a.length 0 [] (by omega) List.Pairwise.nil (by simp)
 obtain ⟨c2, e2, u2, n2, m2⟩ := Vs hb fb (step := FI a b 3) (fun c i => rfl) b.length 0 c1 (by omega) u1 (by simp at n1; omega)
 have e1' : AJ (FJ a b 3) (([] : List Int), 0) = some c1 := e1
 have e2' : AJ (FI a b 3) (c1, 0) = some c2 := e2
 simp only [List.drop_zero, List.length_nil, Nat.zero_add, List.not_mem_nil, false_or] at n1 m1 n2 m2
 have hm : ∀ x, x ∈ c2 ↔ UO a x ∨ UO b x := fun x => by rw [m2, m1]
 have low : ∀ x ∈ c2, ∀ (h : 0 < c2.length), c2.getD 0 default ≤ x := fun x hx h => by
  obtain ⟨j, hj, rfl⟩ := List.mem_iff_getElem.1 hx
  rw [CR h]
  rcases Nat.eq_zero_or_pos j with g | g
  ·subst g; exact Int.le_refl _
  ·have := List.pairwise_iff_getElem.1 u2 0 j h hj g; omega
 have hne : 0 < c2.length ∨ c2 = [] := by
  rcases Nat.eq_zero_or_pos c2.length with h | h
  ·exact .inr (List.length_eq_zero_iff.1 h)
  ·exact .inl h
 obtain ⟨r, r1, r2, r3, r4, r5⟩ := cq ha hb fa fb u2 (by omega) hm c2.length 0 [] (by omega) hne (by simp) (fun w hw => by cases hw) List.Pairwise.nil (fun w hw => by cases hw) (fun u => by
  constructor
  ·intro h; exact absurd h FE
  ·rintro ⟨⟨⟨w, hw, k1, k2⟩, _⟩, h, k⟩
   have := low _ ((hm w.From).2 (.inl ⟨w, hw, .inl rfl⟩)) h
   omega)
 have r1' : AJ (BW a b 3 c2) (([] : List AA), 0) = some r := r1
 refine ⟨r, ?_, r2, r3, by omega, r5⟩
 unfold Fy
 rw [e1', Option.bind_some, e2', Option.bind_some, r1']
 rfl
end Go.Proofs.YthdmeanbdohehaaGreatDoor
