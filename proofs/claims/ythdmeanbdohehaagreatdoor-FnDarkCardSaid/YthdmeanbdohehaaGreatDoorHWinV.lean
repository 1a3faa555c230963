/- What typed forms say: which windows are valid; their texts, written and read. No condition. -/
import Derived.Test.YthdmeanbdohehaaGreatDoorHPB
import Derived.Test.YthdmeanbdohehaaGreatDoorHPC
namespace Go.Proofs.YthdmeanbdohehaaGreatDoor
open Go Go.RowKit
set_option linter.unusedSimpArgs false
set_option linter.unusedVariables false
def si (l : List AA) (i : Nat) : Bool :=
 (((decide (0 ≤ (l.getD i default).From) && decide ((l.getD i default).From ≤ 10000000)) && (decide (0 ≤ (l.getD i default).To) && decide ((l.getD i default).To ≤ 10000000))) && decide ((l.getD i default).From ≤ (l.getD i default).To)) &&
  !(decide (0 < i) && decide ((l.getD i default).From ≤ (l.getD (i - 1) default).To))
def Lx (l : List AA) : Bool := (List.range l.length).all (si l)
def BS (l : List AA) : Bool := Lx l && decide (l.length ≤ 30)
theorem nlt {a b : Int} : decide (a < b) = !decide (b ≤ a) := by rw [Bool.eq_iff_iff]; simp
theorem YW {l : List AA} (hl : l.length ≤ 1099511627776) {i : Nat} (hi : i < l.length) : Cu l (i : Int) = some (if si l i = true then .inl ((i + 1 : Nat) : Int) else .inr (.inr false)) := by
 simp only [Cu, Bp, hi, decide_true, AN, Int.ofNat_lt, if_true, Int.toNat_natCast, BR (show i < 9223372036854775807 by omega), FA, HU, Option.bind_some, Option.isSome_some, Option.getD_some, Bool.or_true]
 unfold si
 rw [nlt]
 by_cases h0 : 0 < i
 ·have e0 : decide ((0 : Int) < (i : Int)) = true := by simpa using h0
  have e1 : decide (0 < i) = true := by simpa using h0
  have w1 : IntKind.i64.wrap ((i : Int) - 1) = ((i - 1 : Nat) : Int) := by rw [AX (by omega) (by omega)]; omega
  have ok1 : BB ((i - 1 : Nat) : Int) l.length = true := by rw [Bp]; simp; omega
  simp only [e0, e1, w1, ok1, Bool.or_true, AN, Bool.true_and, Int.toNat_natCast]
  generalize (decide (0 ≤ (l.getD i default).From) && decide ((l.getD i default).From ≤ 10000000)) = A
  generalize (decide (0 ≤ (l.getD i default).To) && decide ((l.getD i default).To ≤ 10000000)) = B
  generalize decide ((l.getD i default).From ≤ (l.getD i default).To) = C
  generalize decide ((l.getD i default).From ≤ (l.getD (i - 1) default).To) = D
  cases A <;> cases B <;> cases C <;> cases D <;> rfl
 ·have e0 : decide ((0 : Int) < (i : Int)) = false := by simpa using h0
  have e1 : decide (0 < i) = false := by simpa using h0
  simp only [e0, e1, Bool.false_and, Bool.and_false, Bool.not_false, Bool.true_or, AN, Bool.or_false, Bool.and_true]
  generalize (decide (0 ≤ (l.getD i default).From) && decide ((l.getD i default).From ≤ 10000000)) = A
  generalize (decide (0 ≤ (l.getD i default).To) && decide ((l.getD i default).To ≤ 10000000)) = B
  generalize decide ((l.getD i default).From ≤ (l.getD i default).To) = C
  cases A <;> cases B <;> cases C <;> rfl
theorem lZ : ∀ (l : List AA), Eb l l (l.length : Int) = Cu l := fun l => rfl
theorem Hc {l : List AA} (hl : l.length ≤ 1099511627776) : Ck l = some (BS l) := by
 unfold Ck BS
 rw [JK (step := Cu l) (si l) l.length (Lx l) (yes := .inl ()) (no := .inr false) (by unfold Lx; simp) (fun i hi => YW hl hi) (by simp [Cu])]
 have e : decide ((l.length : Int) ≤ 30) = decide (l.length ≤ 30) := by rw [Bool.eq_iff_iff]; simp; omega
 simp only [Option.bind_some, oH]
 cases Lx l <;> simp [e]
theorem CH {l : List AA} (hl : l.length ≤ 1099511627776) : Ag l = some (BS l) := by
 unfold Ag BS
 by_cases h : 30 < (l.length : Int)
 ·have e : decide (l.length ≤ 30) = false := by simp; omega
  simp [h, e]
 ·have e : decide (l.length ≤ 30) = true := by simp; omega
  simp only [h, decide_false, Bool.false_eq_true, if_false]
  rw [lZ, JK (step := Cu l) (si l) l.length (Lx l) (yes := .inl ()) (no := .inr false) (by unfold Lx; simp) (fun i hi => YW hl hi) (by simp [Cu])]
  simp only [Option.bind_some, oH, e]
  cases Lx l <;> rfl
theorem Vh {l : List AA} : Lx l = true ↔ ∀ i, i < l.length → (0 ≤ (l.getD i default).From ∧ (l.getD i default).From ≤ (l.getD i default).To ∧ (l.getD i default).To ≤ 10000000) ∧ (0 < i → (l.getD (i - 1) default).To < (l.getD i default).From) := by
 unfold Lx si
 simp only [List.all_eq_true, List.mem_range, Bool.and_eq_true, Bool.not_eq_true', Bool.and_eq_false_iff, decide_eq_true_eq, decide_eq_false_iff_not]
 constructor
 ·intro h i hi
  obtain ⟨⟨⟨⟨a, b⟩, c, d⟩, e⟩, g⟩ := h i hi
  refine ⟨⟨a, e, d⟩, fun h0 => ?_⟩
  rcases g with g | g
  ·exact absurd h0 g
  ·omega
 ·intro h i hi
  obtain ⟨⟨a, b, c⟩, d⟩ := h i hi
  refine ⟨⟨⟨⟨a, by omega⟩, by omega, c⟩, b⟩, ?_⟩
  by_cases h0 : 0 < i
  ·have := d h0; exact .inr (by omega)
  ·exact .inl h0
theorem Cv {l : List AA} (h : BS l = true) : Lx l = true ∧ l.length ≤ 30 := by
 unfold BS at h
 simp only [Bool.and_eq_true, decide_eq_true_eq] at h
 exact h
theorem Du {l : List AA} (h : BS l = true) {w : AA} (hw : w ∈ l) : 0 ≤ w.From ∧ w.From ≤ w.To ∧ w.To ≤ 10000000 := by
 obtain ⟨i, hi, rfl⟩ := List.mem_iff_getElem.1 hw
 have := (Vh.1 (Cv h).1 i hi).1
 rwa [CR hi] at this
theorem MD {l : List AA} (h : BS l = true) : JJ l := fun w hw => by
 have := Du h hw; exact ⟨this.1, this.2.1, by omega⟩
def Cs (w : AA) : List UInt8 := Hk w.From w.To
def CM (l : List AA) : List UInt8 := Eh 32 (l.map Cs)
theorem IP {w : AA} (h : 0 ≤ w.From ∧ w.From ≤ w.To ∧ w.To ≤ 10000000) : (Cs w).length ≤ 44 := by
 have l1 := JT (fH h.1 (show w.From ≤ 10000000 by omega))
 have l2 := JT (fH (show 0 ≤ w.To by omega) h.2.2)
 simp only [Cs, Hk, List.length_append, List.length_cons]
 omega
theorem VJ (w : AA) : Cs w ≠ [] := by simp [Cs, Hk]
theorem Fl {c : UInt8} {a : List UInt8} {r : List (List UInt8)} (h : r ≠ []) : Eh c (a :: r) = a ++ c :: Eh c r := by
 cases r with
 | nil => exact absurd rfl h
 | cons b r => rfl
theorem IU (c : UInt8) : ∀ (l : List (List UInt8)) (k : Nat), (∀ p ∈ l, p.length ≤ k) → (Eh c l).length ≤ l.length * (k + 1)
 | [], k, _ => by simp [Eh]
 | [a], k, h => by have := h a (by simp); simp [Eh]; omega
 | a :: b :: r, k, h => by
  have ih := IU c (b :: r) k (fun p hp => h p (List.mem_cons_of_mem _ hp))
  have := h a (by simp)
  rw [Fl (by simp)]
  simp only [List.length_append, List.length_cons, Nat.add_mul] at ih ⊢
  omega
theorem Pv (c : UInt8) (z : List UInt8) : ∀ l : List (List UInt8), Eh c (l ++ [z]) = if l = [] then z else Eh c l ++ c :: z
 | [] => rfl
 | [a] => rfl
 | a :: b :: r => by
  have ih := Pv c z (b :: r)
  rw [if_neg (by simp)] at ih
  rw [if_neg (by simp), List.cons_append, Fl (r := b :: r ++ [z]) (by simp), ih, Fl (r := b :: r) (by simp)]
  simp
theorem bS (c : UInt8) : ∀ l : List (List UInt8), Lib.join l [c] = Eh c l
 | [] => rfl
 | [a] => by simp [Lib.join, List.intercalate, Eh]
 | a :: b :: r => by
  have ih := bS c (b :: r)
  rw [Fl (by simp), ← ih]
  simp [Lib.join, List.intercalate]
theorem cH {l : List AA} (h : BS l = true) : (CM l).length ≤ 2000 := by
 have h30 := (Cv h).2
 have := IU 32 (l.map Cs) 44 (fun p hp => by
  obtain ⟨w, hw, rfl⟩ := List.mem_map.1 hp
  exact IP (Du h hw))
 unfold CM
 rw [List.length_map] at this
 omega
theorem TM {l : List AA} (h : BS l = true) : AJ (Cb l (l.length : Int)) (([] : List (List UInt8)), 0) = some (l.map Cs) := by
 have h30 := (Cv h).2
 have := Mo (step := Cb l (l.length : Int)) (fun i => (l.take i).map Cs) l.length (r := l.map Cs) (fun i hi => by
  obtain ⟨w, hw⟩ : ∃ w, l.getD i default = w := ⟨_, rfl⟩
  have hwi : l[i] = w := by rw [← hw, CR hi]
  have hv := Du h (w := w) (by rw [← hwi]; exact List.getElem_mem hi)
  have l1 := JT (fH hv.1 (show w.From ≤ 10000000 by omega))
  have l2 := JT (fH (show 0 ≤ w.To by omega) hv.2.2)
  have htk : l.take (i + 1) = l.take i ++ [w] := by rw [List.take_succ_eq_append_getElem hi, hwi]
  simp only [Cb, Bp, hi, decide_true, AN, Int.ofNat_lt, if_true, Int.toNat_natCast, BR (show i < 9223372036854775807 by omega), hw, Um (fH hv.1 (show w.From ≤ 10000000 by omega)), Um (fH (show 0 ≤ w.To by omega) hv.2.2), Option.bind_some]
  rw [Hh (by simp; omega), AN, Hh (by simp; omega), AN, Bu (by simp; omega), AN, htk, List.map_append]
  simp [Cs, Hk]) (by simp [Cb])
 simpa using this
theorem HS {l : List AA} (hl : l.length ≤ 1099511627776) : DP l = some (if BS l = true then CM l else []) := by
 unfold DP
 rw [CH hl, Option.bind_some]
 cases h : BS l
 ·rfl
 ·simp only [Bool.not_true, Bool.false_eq_true, if_false, if_true]
  have h30 := (Cv h).2
  have := cH h
  rw [TM h, Option.bind_some]
  unfold ba Zy
  rw [bS]
  rw [if_pos (by unfold CM at this; simp; omega)]
  rfl
theorem Te {l : List AA} (hl : l.length ≤ 30) (hv : ∀ w ∈ l, 0 ≤ w.From ∧ w.From ≤ w.To ∧ w.To ≤ 10000000) : Fx l = some (CM l) := by
 have hlen : ∀ k : List AA, (∀ w ∈ k, w ∈ l) → (CM k).length ≤ k.length * 45 := fun k hk => by
  have := IU 32 (k.map Cs) 44 (fun p hp => by
   obtain ⟨w, hw, rfl⟩ := List.mem_map.1 hp
   exact IP (hv w (hk w hw)))
  rwa [List.length_map] at this
 have key := Mo (step := DH l) (fun i => CM (l.take i)) l.length (r := CM l) (fun i hi => by
  obtain ⟨w, hw⟩ : ∃ w, l.getD i default = w := ⟨_, rfl⟩
  have hwi : l[i] = w := by rw [← hw, CR hi]
  have hv' := hv w (by rw [← hwi]; exact List.getElem_mem hi)
  have l1 := JT (fH hv'.1 (show w.From ≤ 10000000 by omega))
  have l2 := JT (fH (show 0 ≤ w.To by omega) hv'.2.2)
  have htk : l.take (i + 1) = l.take i ++ [w] := by rw [List.take_succ_eq_append_getElem hi, hwi]
  have hL := hlen (l.take i) (fun w hw => List.mem_of_mem_take hw)
  rw [List.length_take] at hL
  have hL' : (CM (l.take i)).length ≤ 1350 := by omega
  have step : CM (l.take (i + 1)) = if 0 < i then CM (l.take i) ++ 32 :: Cs w else Cs w := by
   unfold CM
   rw [htk, List.map_append, List.map_cons, List.map_nil, Pv]
   by_cases h0 : 0 < i
   ·rw [if_pos h0, if_neg (by
     intro c
     have h9 : (List.map Cs (l.take i)).length = 0 := by rw [c]; rfl
     rw [List.length_map, List.length_take] at h9
     omega)]
   ·have : i = 0 := by omega
    subst this
    rw [if_neg h0]; rfl
  rw [step]
  have c1 : Es (CM (l.take i)).length ([32] : List UInt8).length = true := Hh (by simp only [List.length_cons, List.length_nil]; omega)
  have c2 : Es (Lib.itoa w.From).length ([46, 46] : List UInt8).length = true := Hh (by simp only [List.length_cons, List.length_nil]; omega)
  have c3 : Es (Lib.itoa w.From ++ ([46, 46] : List UInt8)).length (Lib.itoa w.To).length = true := Hh (by simp only [List.length_append, List.length_cons, List.length_nil]; omega)
  have c4 : Es (CM (l.take i) ++ ([32] : List UInt8)).length ((Lib.itoa w.From ++ ([46, 46] : List UInt8)) ++ Lib.itoa w.To).length = true := Hh (by simp only [List.length_append, List.length_cons, List.length_nil]; omega)
  have c5 : Es (CM (l.take i)).length ((Lib.itoa w.From ++ ([46, 46] : List UInt8)) ++ Lib.itoa w.To).length = true := Hh (by simp only [List.length_append, List.length_cons, List.length_nil]; omega)
  by_cases h0 : 0 < i
  ·have e0 : decide ((0 : Int) < (i : Int)) = true := by simpa using h0
   simp only [DH, Bp, hi, decide_true, AN, Int.ofNat_lt, if_true, Int.toNat_natCast, BR (show i < 9223372036854775807 by omega), e0, hw, IE (fH hv'.1 (show w.From ≤ 10000000 by omega)), IE (fH (show 0 ≤ w.To by omega) hv'.2.2), Option.bind_some, if_pos h0, c1, c2, c3, c4]
   simp [Cs, Hk, h0]
  ·have e0 : decide ((0 : Int) < (i : Int)) = false := by simpa using h0
   have : i = 0 := by omega
   subst this
   simp only [DH, Bp, hi, decide_true, AN, Int.ofNat_lt, if_true, Int.toNat_natCast, BR (show 0 < 9223372036854775807 by omega), e0, hw, IE (fH hv'.1 (show w.From ≤ 10000000 by omega)), IE (fH (show 0 ≤ w.To by omega) hv'.2.2), Option.bind_some, Bool.false_eq_true, if_false, c2, c3, c5]
   simp [Cs, Hk, CM, Eh]) (by rw [List.take_length]; simp [DH])
 unfold Fx
 have key' : AJ (DH l) (([] : List UInt8), 0) = some (CM l) := by simpa [CM, Eh] using key
 rw [key']; rfl
theorem Pm {l : List AA} (hl : l.length ≤ 1099511627776) : Bn l = some (if BS l = true then CM l else []) := by
 unfold Bn
 rw [Hc hl, Option.bind_some]
 cases h : BS l
 ·rfl
 ·simp only [Bool.not_true, Bool.false_eq_true, if_false, if_true]
  rw [Te (Cv h).2 (fun w hw => Du h hw)]; rfl
theorem Kl {w : AA} (h : 0 ≤ w.From ∧ w.From ≤ w.To) : (32 : UInt8) ∉ Cs w := YH h.1 (by omega)
theorem kb (s : List UInt8) (hs : s ≠ []) : (Lib.cut s [32]).2.1.length < s.length := by
 rcases IF 32 s with ⟨_, h⟩ | ⟨a, b, rfl, h, _⟩
 ·rw [ka h]
  cases s with
  | nil => exact absurd rfl hs
  | cons x r => simp
 ·rw [bm h]; simp; omega
theorem ZO {s : List UInt8} (hl : s.length ≤ 1048576) : ∃ y, CL s = some y ∧ (y = ([], false) ∨ (y.2 = true ∧ BS y.1 = true ∧ s = CM y.1)) := by
 unfold CL
 obtain ⟨y, hy, hq⟩ := II (step := Bl s) (fun st => st.1.length ≤ 30 ∧ st.2.length ≤ 1048576) (fun y => (∃ l, y = .inl l ∧ l.length ≤ 30) ∨ y = .inr ([], false)) (fun st => st.2.length) (by
  rintro ⟨l, rest⟩ ⟨h1, h2⟩
  simp only at h1 h2
  by_cases hr : rest = []
  ·right
   exact ⟨.inl l, by simp [Bl, hr], .inl ⟨l, rfl, h1⟩⟩
  ·have e : (!(rest == ([] : List UInt8))) = true := by simpa using hr
   obtain ⟨c1, c2⟩ := ZA rest [32]
   have c3 := kb rest hr
   unfold Bl
   dsimp only
   rw [if_pos e, XE h2, Option.bind_some, Lt (by omega), Option.bind_some]
   by_cases hb : ((!((Cm (Lib.cut (Lib.cut rest [32]).1 [46, 46]).1).2 && (Cm (Lib.cut (Lib.cut rest [32]).1 [46, 46]).2.1).2)) || ((l.length : Int) == 30)) = true
   ·right
    exact ⟨_, by rw [if_pos hb], .inr rfl⟩
   ·left
    have hb' := hb
    simp only [Bool.or_eq_true, not_or, beq_iff_eq] at hb'
    refine ⟨_, by rw [if_neg hb, Bu (by simp; omega), AN], ⟨?_, ?_⟩, ?_⟩
    ·show (l ++ [_]).length ≤ 30
     simp; omega
    ·show (Lib.cut rest [32]).2.1.length ≤ 1048576
     omega
    ·show (Lib.cut rest [32]).2.1.length < rest.length
     exact c3) (s := (([] : List AA), s)) ⟨by simp, hl⟩
 rw [hy, Option.bind_some]
 rcases hq with ⟨l, rfl, h30⟩ | rfl
 ·simp only
  rw [CH (by omega), Option.bind_some, HS (by omega)]
  simp only [Option.isSome_some, Option.getD_some, Bool.or_true, AN]
  cases h : BS l
  ·exact ⟨_, rfl, .inl rfl⟩
  ·simp only [Bool.not_true, Bool.false_or, if_true]
   by_cases ht : CM l = s
   ·rw [if_neg (by simp [ht])]
    exact ⟨_, rfl, .inr ⟨rfl, h, ht.symm⟩⟩
   ·rw [if_pos (by simpa using ht)]
    exact ⟨_, rfl, .inl rfl⟩
 ·exact ⟨_, rfl, .inl rfl⟩
theorem Mm {l : List AA} (h : BS l = true) : CL (CM l) = some (l, true) := by
 have h30 := (Cv h).2
 have hone := fun {w} (hw : w ∈ l) => Du h hw
 have key : ∀ (r d : List AA), d ++ r = l → AJ (Bl (CM l)) (d, CM r) = some (.inl l) := by
  intro r
  induction r with
  | nil =>
   intro d hd
   rw [List.append_nil] at hd
   subst hd
   exact Ae (by simp [Bl, CM, Eh])
  | cons w r ih =>
   intro d hd
   have hw := hone (w := w) (by rw [← hd]; simp)
   have hlen : d.length + (r.length + 1) = l.length := by rw [← hd]; simp
   have hrl : (CM (w :: r)).length ≤ 1048576 := by
    have := IU 32 ((w :: r).map Cs) 44 (fun p hp => by
     obtain ⟨v, hv, rfl⟩ := List.mem_map.1 hp
     exact IP (hone (by rw [← hd]; simp only [List.mem_append]; exact .inr hv)))
    unfold CM
    simp only [List.length_map, List.length_cons] at this ⊢
    omega
   have hcut : Lib.cut (CM (w :: r)) [32] = (Cs w, CM r, decide (r ≠ [])) := by
    by_cases hr : r = []
    ·subst hr
     show Lib.cut (Cs w) [32] = _
     rw [ka (Kl ⟨hw.1, hw.2.1⟩)]; rfl
    ·have : CM (w :: r) = Cs w ++ 32 :: CM r := by
      unfold CM
      rw [List.map_cons, Fl (by simpa using hr)]
     rw [this, bm (Kl ⟨hw.1, hw.2.1⟩)]
     simp [hr]
   have hne : (!(CM (w :: r) == ([] : List UInt8))) = true := by
    have : CM (w :: r) ≠ [] := by
     by_cases hr : r = []
     ·subst hr; exact VJ w
     ·unfold CM
      rw [List.map_cons, Fl (by simpa using hr)]
      simp
    simpa using this
   have hrg : Ep (Cs w) = some (w.From, w.To, true) := by
    have := IP hw
    rw [Lt (by omega)]
    have k1 : Lib.cut (Cs w) [46, 46] = (Lib.itoa w.From, Lib.itoa w.To, true) := nZ (Jg hw.1 (by decide))
    rw [k1, bG hw.1 (show w.From ≤ 10000000 by omega), bG (show 0 ≤ w.To by omega) hw.2.2]
    rfl
   have hst : Bl (CM l) (d, CM (w :: r)) = some (.inl (d ++ [w], CM r)) := by
    unfold Bl
    dsimp only
    rw [if_pos hne, XE hrl, Option.bind_some, hcut]
    simp only
    rw [hrg, Option.bind_some, if_neg (by simp; omega), Bu (by simp; omega), AN]
   rw [Ah hst]
   exact ih (d ++ [w]) (by simpa using hd)
 unfold CL
 rw [key l [] rfl, Option.bind_some]
 simp only
 rw [CH (by omega), Option.bind_some, HS (by omega), h]
 simp [AN]
def Xp (w : List UInt8) : Bool := (GX w).2.2
theorem Zj {ws : List (List UInt8)} (hws : ws.length ≤ 1048577) (hp : ∀ p ∈ ws, p.length ≤ 1048576) (out : List AA) {i : Nat} (hi : i < ws.length) (ho : out.length ≤ i) :
  Bk ws (out, (i : Int)) = some (if Xp (ws.getD i default) = true then .inl (out ++ [⟨(GX (ws.getD i default)).1, (GX (ws.getD i default)).2.1⟩], ((i + 1 : Nat) : Int)) else .inr (.inr ([], false))) := by
 have hpl := hp _ (Fq hi default)
 have hsub : ∀ p ∈ CP 46 (ws.getD i default), p.length ≤ 1048576 := fun p h => Nat.le_trans (Po h) hpl
 unfold Bk Xp GX
 dsimp only
 rw [if_pos (decide_eq_true (by omega)), Bp, decide_eq_true hi, AN, Int.toNat_natCast, Pt 46 hpl, Option.bind_some, BR (by omega)]
 generalize CP 46 (ws.getD i default) = v at hsub
 match v, hsub with
 | [], _ => rfl
 | [a], _ => rfl
 | [a, b], _ => cases b <;> rfl
 | a :: b :: c :: d :: r, _ =>
  have e : (!(((a :: b :: c :: d :: r).length : Int) == 3)) = true := by
   simp only [List.length_cons, Bool.not_eq_true', beq_eq_false_iff_ne]; omega
  rw [e]
  simp only [Bool.not_true, Bool.not_false, Bool.true_or, AN, if_true]
  cases b <;> rfl
 | [a, x :: b, c], _ => rfl
 | [a, [], c], hs =>
  have h1 := hs a (by simp)
  have h2 := hs c (by simp)
  have g0 : ([a, [], c] : List (List UInt8)).getD 0 default = a := rfl
  have g2 : ([a, [], c] : List (List UInt8)).getD 2 default = c := rfl
  have g1 : ([a, [], c] : List (List UInt8)).getD 1 default = [] := rfl
  have i0 : BB 0 ([a, [], c] : List (List UInt8)).length = true := rfl
  have i1 : BB 1 ([a, [], c] : List (List UInt8)).length = true := rfl
  have i2 : BB 2 ([a, [], c] : List (List UInt8)).length = true := rfl
  have el : (!((([a, [], c] : List (List UInt8)).length : Int) == 3)) = false := rfl
  simp only [g0, g1, g2, i0, i1, i2, el, Bool.or_true, AN, beq_self_eq_true, Bool.not_true, Bool.or_self, Bool.false_eq_true, if_false, Nn h1, Nn h2, Option.bind_some]
  cases h3 : (Cm a).2 <;> cases h4 : (Cm c).2 <;> simp only [Bool.not_true, Bool.not_false, Bool.or_self, Bool.or_true, Bool.true_or, Bool.and_self, Bool.and_false, Bool.and_true, Bool.false_eq_true, if_false, if_true]
  rw [Bu (by simp; omega), AN]
theorem Zk {ws : List (List UInt8)} (hws : ws.length ≤ 1048577) (hp : ∀ p ∈ ws, p.length ≤ 1048576) : ∀ (m i : Nat) (out : List AA), i + m = ws.length → out.length = i → out.map Cs = ws.take i →
  (AJ (Bk ws) (out, (i : Int)) = some (.inr ([], false)) ∧ ∃ p ∈ ws, Xp p = false) ∨ ∃ l, AJ (Bk ws) (out, (i : Int)) = some (.inl l) ∧ l.map Cs = ws ∧ (∀ k, k < l.length → i ≤ k → l.getD k default = ⟨(GX (ws.getD k default)).1, (GX (ws.getD k default)).2.1⟩) ∧ l.take i = out := by
 intro m
 induction m with
 | zero =>
  intro i out hi ho hm
  refine .inr ⟨out, Ae ?_, ?_, fun k hk h => absurd hk (by omega), by rw [← ho, List.take_length]⟩
  ·unfold Bk; dsimp only; rw [if_neg (by simp; omega)]
  ·rw [hm, List.take_of_length_le (by omega)]
 | succ m ih =>
  intro i out hi ho hm
  have hiw : i < ws.length := by omega
  have hst := Zj hws hp out hiw (by omega)
  cases hc : Xp (ws.getD i default)
  ·rw [hc] at hst
   exact .inl ⟨Ae hst, _, Fq hiw default, hc⟩
  ·rw [hc, if_pos rfl] at hst
   have e := cX hc
   rcases ih (i + 1) (out ++ [⟨(GX (ws.getD i default)).1, (GX (ws.getD i default)).2.1⟩]) (by omega) (by simp [ho]) (by
    rw [List.map_append, hm, List.take_succ_eq_append_getElem hiw, List.map_cons, List.map_nil]
    congr 2
    rw [← CR hiw default]
    exact e.symm) with ⟨k1, k2⟩ | ⟨l, k1, k2, k3, k4⟩
   ·exact .inl ⟨by rw [Ah hst]; exact k1, k2⟩
   ·refine .inr ⟨l, by rw [Ah hst]; exact k1, k2, fun k hk h => ?_, ?_⟩
    ·rcases Nat.lt_or_ge i k with g | g
     ·exact k3 k hk (by omega)
     ·have : k = i := by omega
      subst this
      have : (l.take (k + 1)).getD k default = l.getD k default := by simp [List.getD_eq_getElem?_getD, List.getElem?_take]
      rw [← this, k4]
      simp [List.getD_eq_getElem?_getD, ← ho]
    ·have : l.take i = (l.take (i + 1)).take i := by rw [List.take_take]; congr 1; omega
     rw [this, k4, ← ho, List.take_left]
theorem ai {s : List UInt8} (hl : s.length ≤ 1048576) : ∃ y, EK s = some y ∧ (y = ([], false) ∨ (y.2 = true ∧ BS y.1 = true ∧ s = CM y.1)) ∧ ∀ l, BS l = true → s = CM l → y = (l, true) := by
 unfold EK
 by_cases h0 : s = []
 ·subst h0
  refine ⟨([], true), rfl, .inr ⟨rfl, rfl, rfl⟩, fun l hv ht => ?_⟩
  cases l with
  | nil => rfl
  | cons w r =>
   have : CM (w :: r) ≠ [] := by
    by_cases hr : r = []
    ·subst hr; exact VJ w
    ·unfold CM
     rw [List.map_cons, Fl (by simpa using hr)]
     simp
   exact absurd ht.symm this
 ·have e : (s == ([] : List UInt8)) = false := by simpa using h0
  rw [e]
  simp only [Bool.false_eq_true, if_false]
  rw [Pt 32 hl, Option.bind_some]
  have hlen := (Jr 32 s []).2
  have hws : (CP 32 s).length ≤ 1048577 := by unfold CP; omega
  have hp : ∀ p ∈ CP 32 s, p.length ≤ 1048576 := fun p hp => Nat.le_trans (Po hp) hl
  have words : ∀ l, BS l = true → s = CM l → CP 32 s = l.map Cs := fun l hv ht => by
   rw [ht]
   refine MI 32 (l.map Cs) ?_ (fun p hp => ?_)
   ·intro c
    have : l = [] := by simpa using c
    rw [this] at ht; exact h0 ht
   ·obtain ⟨w, hw, rfl⟩ := List.mem_map.1 hp
    have := Du hv hw
    exact Kl ⟨this.1, this.2.1⟩
  have good : ∀ w : AA, (0 ≤ w.From ∧ w.From ≤ w.To ∧ w.To ≤ 10000000) → GX (Cs w) = (w.From, w.To, true) := fun w h => YI h.1 (by omega) (by omega) h.2.2
  rcases Zk hws hp (CP 32 s).length 0 [] (by omega) rfl rfl with ⟨k1, p, hp1, hp2⟩ | ⟨l, k1, k2, k3, k4⟩
  ·have k1' : AJ (Bk (CP 32 s)) (([] : List AA), 0) = some (.inr ([], false)) := k1
   rw [k1', Option.bind_some]
   refine ⟨_, rfl, .inl rfl, fun l hv ht => ?_⟩
   rw [words l hv ht] at hp1
   obtain ⟨w, hw, rfl⟩ := List.mem_map.1 hp1
   unfold Xp at hp2
   rw [good w (Du hv hw)] at hp2
   cases hp2
  ·have k1' : AJ (Bk (CP 32 s)) (([] : List AA), 0) = some (.inl l) := k1
   have ht : s = CM l := by
    unfold CM
    rw [k2, Mu]
   have hll : l.length ≤ 1048577 := by have := congrArg List.length k2; rw [List.length_map] at this; omega
   rw [k1', Option.bind_some]
   simp only
   rw [Hc (by omega), Option.bind_some]
   have same : ∀ l', BS l' = true → s = CM l' → l' = l := fun l' hv ht' => by
    have hw := words l' hv ht'
    have hll' : l'.length = l.length := by
     have := congrArg List.length (k2.trans hw); rw [List.length_map, List.length_map] at this; exact this.symm
    refine (Pz hll').1 fun k hk => ?_
    have e1 : (CP 32 s).getD k default = Cs (l'.getD k default) := by
     rw [hw, List.getD_eq_getElem?_getD, List.getElem?_map, List.getElem?_eq_getElem hk, CR hk]; rfl
    have e2 := k3 k (by omega) (by omega)
    rw [e1, good _ (Du hv (Fq hk default))] at e2
    rw [e2]
    simp
   cases hv : BS l
   ·refine ⟨_, rfl, .inl rfl, fun l' hv' ht' => ?_⟩
    rw [same l' hv' ht', hv] at hv'
    cases hv'
   ·refine ⟨_, rfl, .inr ⟨rfl, hv, ht⟩, fun l' hv' ht' => ?_⟩
    rw [same l' hv' ht']
theorem ak {s : List UInt8} (hl : s.length ≤ 1048576) : ∃ y, CL s = some y ∧ EK s = some y ∧ y.1.length ≤ 30 := by
 obtain ⟨y, h1, h2⟩ := ZO hl
 obtain ⟨z, k1, k2, k3⟩ := ai hl
 rcases h2 with rfl | ⟨h2, h3, h4⟩
 ·rcases k2 with rfl | ⟨k2, k4, k5⟩
  ·exact ⟨_, h1, k1, by simp⟩
  ·have h6 := Mm k4
   rw [← k5, h1] at h6
   have h7 := congrArg Prod.snd (Option.some.inj h6)
   cases h7
 ·have := k3 y.1 h3 h4
  have e : y = (y.1, true) := by rw [← h2]
  exact ⟨y, h1, by rw [k1, this, ← e], (Cv h3).2⟩
end Go.Proofs.YthdmeanbdohehaaGreatDoor
