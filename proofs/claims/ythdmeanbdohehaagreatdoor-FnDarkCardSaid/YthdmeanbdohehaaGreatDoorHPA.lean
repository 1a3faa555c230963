/- Plain lemmas, several texts in one. No condition. -/
import Derived.Test.YthdmeanbdohehaaGreatDoorEngTD
import Derived.Test.YthdmeanbdohehaaGreatDoorDKL
namespace Go.Proofs.YthdmeanbdohehaaGreatDoor
open Go Go.RowKit
set_option linter.unusedSimpArgs false
set_option linter.unusedVariables false
theorem Zb {ρ : Type} {step : Int → Option (Int ⊕ (Unit ⊕ ρ))} (p : Nat → Bool) (g : Nat → ρ) (n : Nat)
  (hs : ∀ i, i < n → step (i : Int) = some (if p i = true then .inr (.inr (g i)) else .inl ((i + 1 : Nat) : Int))) (he : step (n : Int) = some (.inr (.inl ()))) :
  AJ step 0 = some (match (List.range n).find? p with | some j => .inr (g j) | none => .inl ()) := by
 have key : ∀ m i : Nat, i + m = n → (∀ k, k < i → p k = false) → AJ step (i : Int) = some (match (List.range n).find? p with | some j => .inr (g j) | none => .inl ()) := by
  intro m
  induction m with
  | zero =>
   intro i hi hk
   obtain rfl : i = n := by omega
   rw [Ae he]
   have : (List.range i).find? p = none := by
    rw [List.find?_eq_none]
    intro x hx; rw [hk x (by simpa using hx)]; exact Bool.false_ne_true
   rw [this]
  | succ m ih =>
   intro i hi hk
   have hlt : i < n := by omega
   by_cases hp : p i = true
   ·rw [Ae (by rw [hs i hlt, if_pos hp])]
    have : (List.range n).find? p = some i := by
     rw [List.find?_range_eq_some]
     exact ⟨hp, by simpa using hlt, fun j hj => by simp [hk j hj]⟩
    rw [this]
   ·rw [Ah (by rw [hs i hlt, if_neg hp])]
    refine ih (i + 1) (by omega) fun k hk2 => ?_
    rcases Nat.lt_or_ge k i with c | c
    ·exact hk k c
    ·obtain rfl : k = i := by omega
     simpa using hp
 exact key n 0 (by omega) fun k hk => by omega
theorem kR {α : Type} [Inhabited α] (xs : List α) (f : α → Bool) : ((List.range xs.length).find? fun i => f (xs.getD i default)).isSome = xs.any f := by
 rw [Bool.eq_iff_iff, List.find?_isSome, List.any_eq_true]
 constructor
 ·rintro ⟨i, hi, hf⟩
  have hi' : i < xs.length := by simpa using hi
  exact ⟨_, Fq hi' default, hf⟩
 ·rintro ⟨x, hx, hf⟩
  obtain ⟨i, hi, rfl⟩ := List.getElem_of_mem hx
  exact ⟨i, by simpa using hi, by rw [CR hi]; exact hf⟩
def IT {α β : Type} (p : Nat → Bool) (x : Nat → β) (n : Nat) : List β := ((List.range n).filter p).map x
theorem YZ {β : Type} (p : Nat → Bool) (x : Nat → β) (n : Nat) : IT (α := β) p x (n + 1) = if p n = true then IT (α := β) p x n ++ [x n] else IT (α := β) p x n := by
 unfold IT
 rw [List.range_succ, List.filter_append, List.map_append]
 by_cases h : p n = true
 ·simp [h]
 ·simp [h]
theorem Tg {β : Type} (p : Nat → Bool) (x : Nat → β) (n : Nat) : (IT (α := β) p x n).length ≤ n := by
 unfold IT
 rw [List.length_map]
 exact Nat.le_trans (List.length_filter_le _ _) (by simp)
theorem Za {β ρ : Type} {step : List β × Int → Option ((List β × Int) ⊕ ρ)} (p : Nat → Bool) (x : Nat → β) (n : Nat) {r : ρ}
  (hs : ∀ (out : List β) (i : Nat), i < n → out.length ≤ i → step (out, (i : Int)) = some (.inl (if p i = true then out ++ [x i] else out, ((i + 1 : Nat) : Int))))
  (he : step (IT (α := β) p x n, (n : Int)) = some (.inr r)) : AJ step ([], 0) = some r := by
 exact Mo (step := step) (fun i => IT (α := β) p x i) n (r := r) (fun i hi => by rw [hs _ i hi (Tg _ _ _), YZ]) he
end Go.Proofs.YthdmeanbdohehaaGreatDoor
namespace Go.Proofs.YthdmeanbdohehaaGreatDoor
open Go Go.RowKit
set_option linter.unusedSimpArgs false
set_option linter.unusedVariables false
def lJ (l : List Int) : Prop := l.Pairwise fun a b => a < b
theorem gO {l : List Int} (hl : l.length ≤ 100000) (hs : lJ l) (n : Int) : ∃ l', EH l n = some l' ∧ lJ l' ∧ l'.length ≤ l.length + 1 ∧ ∀ x, x ∈ l' ↔ x = n ∨ x ∈ l := by
 unfold EH
 have hpair := List.pairwise_iff_getElem.1 hs
 obtain ⟨y, hy, hq⟩ := II (step := En l n) (fun s => ∃ i : Nat, s.2.2 = (i : Int) ∧ i ≤ l.length ∧ lJ s.1 ∧ s.1.length ≤ i + 1 ∧
   (s.2.1 = false → s.1.length ≤ i ∧ (∀ x, x ∈ s.1 ↔ x ∈ l.take i) ∧ ∀ x ∈ l.take i, x < n) ∧ (s.2.1 = true → (∀ x, x ∈ s.1 ↔ x = n ∨ x ∈ l.take i) ∧ ∀ x ∈ l.drop i, n < x))
  (fun y => lJ y.1 ∧ y.1.length ≤ l.length + 1 ∧ (y.2 = false → y.1.length ≤ l.length ∧ (∀ x, x ∈ y.1 ↔ x ∈ l) ∧ ∀ x ∈ l, x < n) ∧ (y.2 = true → ∀ x, x ∈ y.1 ↔ x = n ∨ x ∈ l)) (fun s => l.length - s.2.2.toNat) (by
  rintro ⟨out, done, ii⟩ ⟨i, rfl, hi, hu, hlen, hf, ht⟩
  simp only at hu hlen hf ht
  by_cases h : i < l.length
  ·left
   have etake : ∀ x, x ∈ l.take (i + 1) ↔ x ∈ l.take i ∨ x = l[i] := fun x => by
    rw [List.take_add_one, List.getElem?_eq_getElem h, List.mem_append]
    show _ ∨ x ∈ [l[i]] ↔ _
    rw [List.mem_singleton]
   have edrop : l.drop i = l[i] :: l.drop (i + 1) := List.drop_eq_getElem_cons h
   have hlast : ∀ x ∈ l.take i, x < l[i] := fun x hx => by
    obtain ⟨j, hj, rfl⟩ := List.getElem_of_mem hx
    rw [List.getElem_take]
    exact hpair j i (by simp at hj; omega) h (by simp at hj; omega)
   have hnext : ∀ x ∈ l.drop (i + 1), l[i] < x := fun x hx => by
    obtain ⟨j, hj, rfl⟩ := List.getElem_of_mem hx
    rw [List.getElem_drop]
    exact hpair i (i + 1 + j) h (by simp at hj; omega) (by omega)
   have upapp : ∀ {a : List Int} {z : Int}, lJ a → (∀ x ∈ a, x < z) → lJ (a ++ [z]) := fun ha hz => by
    unfold lJ
    rw [List.pairwise_append]
    exact ⟨ha, by simp, fun x hx y hy => by rw [List.mem_singleton.1 hy]; exact hz x hx⟩
   simp only [En, Bp, h, decide_true, AN, Int.ofNat_lt, if_true, Int.toNat_natCast, Bool.or_true, BR (show i < 9223372036854775807 by omega), CR h]
   cases done
   ·obtain ⟨f1, f2, f3⟩ := hf rfl
    by_cases c1 : n ≤ l[i]
    ·rw [if_pos (by simp [c1])]
     by_cases c2 : n < l[i]
     ·rw [if_pos (by simpa using c2), Bu (by simp; omega), AN, Bu (by simp; omega), AN]
      refine ⟨_, rfl, ⟨i + 1, rfl, by omega, ?_, by simp only [List.length_append, List.length_cons, List.length_nil]; omega, fun e => Bool.noConfusion e, fun _ => ⟨fun x => ?_, fun x hx => ?_⟩⟩, by simp only [Int.toNat_natCast]; omega⟩
      ·refine upapp (upapp hu fun x hx => f3 x ((f2 x).1 hx)) fun x hx => ?_
       rcases List.mem_append.1 hx with a | a
       ·exact hlast x ((f2 x).1 a)
       ·rw [List.mem_singleton.1 a]; exact c2
      ·show x ∈ (out ++ [n]) ++ [l[i]] ↔ _
       rw [List.mem_append, List.mem_append, List.mem_singleton, List.mem_singleton, f2, etake]
       constructor
       ·rintro ((a | a) | a)
        ·exact .inr (.inl a)
        ·exact .inl a
        ·exact .inr (.inr a)
       ·rintro (a | a | a)
        ·exact .inl (.inr a)
        ·exact .inl (.inl a)
        ·exact .inr a
      ·have := hnext x hx; omega
     ·have ce : n = l[i] := by omega
      rw [if_neg (by simpa using c2), Bu (by simp; omega), AN]
      refine ⟨_, rfl, ⟨i + 1, rfl, by omega, upapp hu fun x hx => hlast x ((f2 x).1 hx), by simp only [List.length_append, List.length_cons, List.length_nil]; omega, fun e => Bool.noConfusion e, fun _ => ⟨fun x => ?_, fun x hx => ?_⟩⟩, by simp only [Int.toNat_natCast]; omega⟩
      ·show x ∈ out ++ [l[i]] ↔ _
       rw [List.mem_append, List.mem_singleton, f2, etake, ce]
       constructor
       ·rintro (a | a)
        ·exact .inr (.inl a)
        ·exact .inl a
       ·rintro (a | a | a)
        ·exact .inr a
        ·exact .inl a
        ·exact .inr a
      ·have := hnext x hx; omega
    ·rw [if_neg (by simp [c1]), Bu (by simp; omega), AN]
     refine ⟨_, rfl, ⟨i + 1, rfl, by omega, upapp hu fun x hx => hlast x ((f2 x).1 hx), by simp only [List.length_append, List.length_cons, List.length_nil]; omega, fun _ => ⟨by simp only [List.length_append, List.length_cons, List.length_nil]; omega, fun x => ?_, fun x hx => ?_⟩, fun e => Bool.noConfusion e⟩, by simp only [Int.toNat_natCast]; omega⟩
     ·show x ∈ out ++ [l[i]] ↔ _
      rw [List.mem_append, List.mem_singleton, f2, etake]
     ·rcases (etake x).1 hx with a | a
      ·exact f3 x a
      ·omega
   ·obtain ⟨t1, t2⟩ := ht rfl
    have hn : n < l[i] := t2 _ (by rw [edrop]; exact List.mem_cons_self)
    rw [if_neg (by simp), Bu (by simp; omega), AN]
    refine ⟨_, rfl, ⟨i + 1, rfl, by omega, upapp hu fun x hx => ?_, by simp only [List.length_append, List.length_cons, List.length_nil]; omega, fun e => Bool.noConfusion e, fun _ => ⟨fun x => ?_, fun x hx => t2 x (by rw [edrop]; exact List.mem_cons_of_mem _ hx)⟩⟩, by simp only [Int.toNat_natCast]; omega⟩
    ·rcases (t1 x).1 hx with a | a
     ·rw [a]; exact hn
     ·exact hlast x a
    ·show x ∈ out ++ [l[i]] ↔ _
     rw [List.mem_append, List.mem_singleton, t1, etake, or_assoc]
  ·right
   obtain rfl : i = l.length := by omega
   rw [List.take_length] at hf ht
   exact ⟨(out, done), by simp [En], hu, hlen, hf, fun e => (ht e).1⟩) (s := (([] : List Int), false, 0)) ⟨0, rfl, by omega, List.Pairwise.nil, by simp, fun _ => ⟨by simp, by simp, by simp⟩, fun e => Bool.noConfusion e⟩
 obtain ⟨q0, q1, q2, q3⟩ := hq
 rw [hy, Option.bind_some]
 cases hd : y.2
 ·obtain ⟨a, b, c⟩ := q2 hd
  simp only [Bool.not_false, if_true]
  rw [Bu (by simp; omega), AN]
  refine ⟨_, rfl, ?_, by simp; omega, fun x => ?_⟩
  ·unfold lJ
   rw [List.pairwise_append]
   exact ⟨q0, by simp, fun x hx z hz => by rw [List.mem_singleton.1 hz]; exact c x ((b x).1 hx)⟩
  ·rw [List.mem_append, List.mem_singleton, b]
   exact Or.comm
 ·simp only [Bool.not_true, Bool.false_eq_true, if_false]
  exact ⟨_, rfl, q0, q1, q3 hd⟩
end Go.Proofs.YthdmeanbdohehaaGreatDoor
namespace Go.Proofs.YthdmeanbdohehaaGreatDoor.stab
open Go Go.RowKit Go.Proofs.YthdmeanbdohehaaGreatDoor
set_option linter.unusedSectionVars false
set_option linter.unnecessarySimpa false
set_option linter.unusedSimpArgs false
set_option linter.unusedVariables false
noncomputable def KM {α : Type} [Inhabited α] (cmp : α → α → Option Int) (a : Int) (b : Int) (i : Int) : ((List α) × Int) → Option (((List α) × Int) ⊕ (List α))
 | (data, j) =>
  ck (!(decide (a < j)) || BB j data.length) <|
  ck (!(decide (a < j)) || BB (IntKind.i64.wrap (j - 1)) data.length) <|
  ck (!(decide (a < j)) || (cmp (data.getD j.toNat default) (data.getD (IntKind.i64.wrap (j - 1)).toNat default)).isSome) <|
  if ((decide (a < j)) && (decide (((cmp (data.getD j.toNat default) (data.getD (IntKind.i64.wrap (j - 1)).toNat default)).getD default) < 0))) then
   ck (BB (IntKind.i64.wrap (j - 1)) data.length) <|
   ck (BB j data.length) <|
   some (.inl (((data.set j.toNat (data.getD (IntKind.i64.wrap (j - 1)).toNat default)).set ((IntKind.i64.wrap (j - 1)).toNat) (data.getD j.toNat default)), (IntKind.i64.wrap (j - 1))))
  else
   some (.inr data)
noncomputable def Ld {α : Type} [Inhabited α] (cmp : α → α → Option Int) (a : Int) (b : Int) : ((List α) × Int) → Option (((List α) × Int) ⊕ (List α))
 | (data, i) =>
  if (decide (i < b)) then
   (AJ (KM cmp a b i) (data, i)).bind fun y_8 =>
   some (.inl (y_8, (IntKind.i64.wrap (i + 1))))
  else
   some (.inr data)
noncomputable def kM {α : Type} [Inhabited α] (cmp : α → α → Option Int) (data : List α) (a : Int) (b : Int) : Option (List α) :=
 (AJ (Ld cmp a b) (data, (IntKind.i64.wrap (a + 1)))).bind fun y_9 =>
 ck (y_9.length == data.length) <|
 some y_9
noncomputable def OS {α : Type} [Inhabited α] (a : Int) (b : Int) (n : Int) : ((List α) × Int) → Option (((List α) × Int) ⊕ (List α))
 | (data, i) =>
  if (decide (i < n)) then
   ck (BB (IntKind.i64.wrap (b + i)) data.length) <|
   ck (BB (IntKind.i64.wrap (a + i)) data.length) <|
   some (.inl (((data.set ((IntKind.i64.wrap (a + i)).toNat) (data.getD (IntKind.i64.wrap (b + i)).toNat default)).set ((IntKind.i64.wrap (b + i)).toNat) (data.getD (IntKind.i64.wrap (a + i)).toNat default)), (IntKind.i64.wrap (i + 1))))
  else
   some (.inr data)
noncomputable def dS {α : Type} [Inhabited α] (data : List α) (a : Int) (b : Int) (n : Int) : Option (List α) :=
 (AJ (OS a b n) (data, 0)).bind fun y_4 =>
 ck (y_4.length == data.length) <|
 some y_4
noncomputable def KL {α : Type} [Inhabited α] (m : Int) : ((List α) × Int × Int) → Option (((List α) × Int × Int) ⊕ ((List α) × Int))
 | (data, i, j) =>
  if (!(i == j)) then
   if (decide (j < i)) then
    (dS data (IntKind.i64.wrap (m - i)) m j).bind fun y_3 =>
    some (.inl (y_3, (IntKind.i64.wrap (i - j)), j))
   else
    (dS data (IntKind.i64.wrap (m - i)) (IntKind.i64.wrap ((IntKind.i64.wrap (m + j)) - i)) i).bind fun y_4 =>
    some (.inl (y_4, i, (IntKind.i64.wrap (j - i))))
  else
   some (.inr (data, i))
noncomputable def aH {α : Type} [Inhabited α] (data : List α) (a : Int) (m : Int) (b : Int) : Option (List α) :=
 (AJ (KL m) (data, (IntKind.i64.wrap (m - a)), (IntKind.i64.wrap (b - m)))).bind fun y_5 =>
 (dS y_5.1 (IntKind.i64.wrap (m - y_5.2)) m y_5.2).bind fun y_6 =>
 ck (y_6.length == data.length) <|
 some y_6
noncomputable def Rz {α : Type} [Inhabited α] (cmp : α → α → Option Int) (data : List α) (a : Int) : (Int × Int) → Option ((Int × Int) ⊕ Int)
 | (i, j) =>
  if (decide (i < j)) then
   ck (Kg 1) <|
   ck (BB (IntKind.i64.wrap ((IntKind.u64.wrap (IntKind.i64.wrap (i + j))).fdiv (2 ^ (min 1 64)))) data.length) <|
   ck (BB a data.length) <|
   (cmp (data.getD (IntKind.i64.wrap ((IntKind.u64.wrap (IntKind.i64.wrap (i + j))).fdiv (2 ^ (min 1 64)))).toNat default) (data.getD a.toNat default)).bind fun y_6 =>
   if (decide (y_6 < 0)) then
    some (.inl ((IntKind.i64.wrap ((IntKind.i64.wrap ((IntKind.u64.wrap (IntKind.i64.wrap (i + j))).fdiv (2 ^ (min 1 64)))) + 1)), j))
   else
    some (.inl (i, (IntKind.i64.wrap ((IntKind.u64.wrap (IntKind.i64.wrap (i + j))).fdiv (2 ^ (min 1 64))))))
  else
   some (.inr i)
noncomputable def OR {α : Type} [Inhabited α] (i : Int) : ((List α) × Int) → Option (((List α) × Int) ⊕ (List α))
 | (data, k) =>
  if (decide (k < (IntKind.i64.wrap (i - 1)))) then
   ck (BB (IntKind.i64.wrap (k + 1)) data.length) <|
   ck (BB k data.length) <|
   some (.inl (((data.set k.toNat (data.getD (IntKind.i64.wrap (k + 1)).toNat default)).set ((IntKind.i64.wrap (k + 1)).toNat) (data.getD k.toNat default)), (IntKind.i64.wrap (k + 1))))
  else
   some (.inr data)
noncomputable def Ry {α : Type} [Inhabited α] (cmp : α → α → Option Int) (data : List α) (m : Int) : (Int × Int) → Option ((Int × Int) ⊕ Int)
 | (i, j) =>
  if (decide (i < j)) then
   ck (Kg 1) <|
   ck (BB m data.length) <|
   ck (BB (IntKind.i64.wrap ((IntKind.u64.wrap (IntKind.i64.wrap (i + j))).fdiv (2 ^ (min 1 64)))) data.length) <|
   (cmp (data.getD m.toNat default) (data.getD (IntKind.i64.wrap ((IntKind.u64.wrap (IntKind.i64.wrap (i + j))).fdiv (2 ^ (min 1 64)))).toNat default)).bind fun y_19 =>
   if (!(decide (y_19 < 0))) then
    some (.inl ((IntKind.i64.wrap ((IntKind.i64.wrap ((IntKind.u64.wrap (IntKind.i64.wrap (i + j))).fdiv (2 ^ (min 1 64)))) + 1)), j))
   else
    some (.inl (i, (IntKind.i64.wrap ((IntKind.u64.wrap (IntKind.i64.wrap (i + j))).fdiv (2 ^ (min 1 64))))))
  else
   some (.inr i)
noncomputable def OQ {α : Type} [Inhabited α] (i : Int) : ((List α) × Int) → Option (((List α) × Int) ⊕ (List α))
 | (data, k) =>
  if (decide (i < k)) then
   ck (BB (IntKind.i64.wrap (k - 1)) data.length) <|
   ck (BB k data.length) <|
   some (.inl (((data.set k.toNat (data.getD (IntKind.i64.wrap (k - 1)).toNat default)).set ((IntKind.i64.wrap (k - 1)).toNat) (data.getD k.toNat default)), (IntKind.i64.wrap (k - 1))))
  else
   some (.inr data)
noncomputable def Lc {α : Type} [Inhabited α] (cmp : α → α → Option Int) (data : List α) (a : Int) (m : Int) (b : Int) (mid : Int) (n : Int) (p : Int) : (Int × Int) → Option ((Int × Int) ⊕ Int)
 | (start, r) =>
  if (decide (start < r)) then
   ck (Kg 1) <|
   ck (BB (IntKind.i64.wrap (p - (IntKind.i64.wrap ((IntKind.u64.wrap (IntKind.i64.wrap (start + r))).fdiv (2 ^ (min 1 64)))))) data.length) <|
   ck (BB (IntKind.i64.wrap ((IntKind.u64.wrap (IntKind.i64.wrap (start + r))).fdiv (2 ^ (min 1 64)))) data.length) <|
   (cmp (data.getD (IntKind.i64.wrap (p - (IntKind.i64.wrap ((IntKind.u64.wrap (IntKind.i64.wrap (start + r))).fdiv (2 ^ (min 1 64)))))).toNat default) (data.getD (IntKind.i64.wrap ((IntKind.u64.wrap (IntKind.i64.wrap (start + r))).fdiv (2 ^ (min 1 64)))).toNat default)).bind fun y_33 =>
   if (!(decide (y_33 < 0))) then
    some (.inl ((IntKind.i64.wrap ((IntKind.i64.wrap ((IntKind.u64.wrap (IntKind.i64.wrap (start + r))).fdiv (2 ^ (min 1 64)))) + 1)), r))
   else
    some (.inl (start, (IntKind.i64.wrap ((IntKind.u64.wrap (IntKind.i64.wrap (start + r))).fdiv (2 ^ (min 1 64))))))
  else
   some (.inr start)
noncomputable def XI {α : Type} [Inhabited α] (cmp : α → α → Option Int) (data : List α) (a : Int) (m : Int) (b : Int) (mid : Int) (n : Int) (p : Int) : (Int × Int) → Option ((Int × Int) ⊕ Int)
 | (start, r) =>
  if (decide (start < r)) then
   ck (Kg 1) <|
   ck (BB (IntKind.i64.wrap (p - (IntKind.i64.wrap ((IntKind.u64.wrap (IntKind.i64.wrap (start + r))).fdiv (2 ^ (min 1 64)))))) data.length) <|
   ck (BB (IntKind.i64.wrap ((IntKind.u64.wrap (IntKind.i64.wrap (start + r))).fdiv (2 ^ (min 1 64)))) data.length) <|
   (cmp (data.getD (IntKind.i64.wrap (p - (IntKind.i64.wrap ((IntKind.u64.wrap (IntKind.i64.wrap (start + r))).fdiv (2 ^ (min 1 64)))))).toNat default) (data.getD (IntKind.i64.wrap ((IntKind.u64.wrap (IntKind.i64.wrap (start + r))).fdiv (2 ^ (min 1 64)))).toNat default)).bind fun y_61 =>
   if (!(decide (y_61 < 0))) then
    some (.inl ((IntKind.i64.wrap ((IntKind.i64.wrap ((IntKind.u64.wrap (IntKind.i64.wrap (start + r))).fdiv (2 ^ (min 1 64)))) + 1)), r))
   else
    some (.inl (start, (IntKind.i64.wrap ((IntKind.u64.wrap (IntKind.i64.wrap (start + r))).fdiv (2 ^ (min 1 64))))))
  else
   some (.inr start)
noncomputable def Cj {α : Type} [Inhabited α] (cmp : α → α → Option Int) : Nat → (List α) → Int → Int → Int → Option (List α)
 | 0, _, _, _, _ => none
 | n_ + 1, data, a, m, b =>
  if ((IntKind.i64.wrap (m - a)) == 1) then
   (AJ (Rz cmp data a) (m, b)).bind fun y_8 =>
   (AJ (OR y_8) (data, a)).bind fun y_12 =>
   ck (y_12.length == data.length) <|
   some y_12
  else
   if ((IntKind.i64.wrap (b - m)) == 1) then
    (AJ (Ry cmp data m) (a, m)).bind fun y_21 =>
    (AJ (OQ y_21) (data, m)).bind fun y_25 =>
    ck (y_25.length == data.length) <|
    some y_25
   else
    ck (Kg 1) <|
    if (decide ((IntKind.i64.wrap ((IntKind.u64.wrap (IntKind.i64.wrap (a + b))).fdiv (2 ^ (min 1 64)))) < m)) then
     (AJ (Lc cmp data a m b (IntKind.i64.wrap ((IntKind.u64.wrap (IntKind.i64.wrap (a + b))).fdiv (2 ^ (min 1 64)))) (IntKind.i64.wrap ((IntKind.i64.wrap ((IntKind.u64.wrap (IntKind.i64.wrap (a + b))).fdiv (2 ^ (min 1 64)))) + m)) (IntKind.i64.wrap ((IntKind.i64.wrap ((IntKind.i64.wrap ((IntKind.u64.wrap (IntKind.i64.wrap (a + b))).fdiv (2 ^ (min 1 64)))) + m)) - 1))) ((IntKind.i64.wrap ((IntKind.i64.wrap ((IntKind.i64.wrap ((IntKind.u64.wrap (IntKind.i64.wrap (a + b))).fdiv (2 ^ (min 1 64)))) + m)) - b)), (IntKind.i64.wrap ((IntKind.u64.wrap (IntKind.i64.wrap (a + b))).fdiv (2 ^ (min 1 64)))))).bind fun y_35 =>
     if ((decide (y_35 < m)) && (decide (m < (IntKind.i64.wrap ((IntKind.i64.wrap ((IntKind.i64.wrap ((IntKind.u64.wrap (IntKind.i64.wrap (a + b))).fdiv (2 ^ (min 1 64)))) + m)) - y_35))))) then
      (aH data y_35 m (IntKind.i64.wrap ((IntKind.i64.wrap ((IntKind.i64.wrap ((IntKind.u64.wrap (IntKind.i64.wrap (a + b))).fdiv (2 ^ (min 1 64)))) + m)) - y_35))).bind fun y_37 =>
      if ((decide (a < y_35)) && (decide (y_35 < (IntKind.i64.wrap ((IntKind.u64.wrap (IntKind.i64.wrap (a + b))).fdiv (2 ^ (min 1 64))))))) then
       (Cj cmp n_ y_37 a y_35 (IntKind.i64.wrap ((IntKind.u64.wrap (IntKind.i64.wrap (a + b))).fdiv (2 ^ (min 1 64))))).bind fun y_39 =>
       if ((decide ((IntKind.i64.wrap ((IntKind.u64.wrap (IntKind.i64.wrap (a + b))).fdiv (2 ^ (min 1 64)))) < (IntKind.i64.wrap ((IntKind.i64.wrap ((IntKind.i64.wrap ((IntKind.u64.wrap (IntKind.i64.wrap (a + b))).fdiv (2 ^ (min 1 64)))) + m)) - y_35)))) && (decide ((IntKind.i64.wrap ((IntKind.i64.wrap ((IntKind.i64.wrap ((IntKind.u64.wrap (IntKind.i64.wrap (a + b))).fdiv (2 ^ (min 1 64)))) + m)) - y_35)) < b))) then
        (Cj cmp n_ y_39 (IntKind.i64.wrap ((IntKind.u64.wrap (IntKind.i64.wrap (a + b))).fdiv (2 ^ (min 1 64)))) (IntKind.i64.wrap ((IntKind.i64.wrap ((IntKind.i64.wrap ((IntKind.u64.wrap (IntKind.i64.wrap (a + b))).fdiv (2 ^ (min 1 64)))) + m)) - y_35)) b).bind fun y_41 =>
        ck (y_41.length == data.length) <|
        some y_41
       else
        ck (y_39.length == data.length) <|
        some y_39
      else
       if ((decide ((IntKind.i64.wrap ((IntKind.u64.wrap (IntKind.i64.wrap (a + b))).fdiv (2 ^ (min 1 64)))) < (IntKind.i64.wrap ((IntKind.i64.wrap ((IntKind.i64.wrap ((IntKind.u64.wrap (IntKind.i64.wrap (a + b))).fdiv (2 ^ (min 1 64)))) + m)) - y_35)))) && (decide ((IntKind.i64.wrap ((IntKind.i64.wrap ((IntKind.i64.wrap ((IntKind.u64.wrap (IntKind.i64.wrap (a + b))).fdiv (2 ^ (min 1 64)))) + m)) - y_35)) < b))) then
        (Cj cmp n_ y_37 (IntKind.i64.wrap ((IntKind.u64.wrap (IntKind.i64.wrap (a + b))).fdiv (2 ^ (min 1 64)))) (IntKind.i64.wrap ((IntKind.i64.wrap ((IntKind.i64.wrap ((IntKind.u64.wrap (IntKind.i64.wrap (a + b))).fdiv (2 ^ (min 1 64)))) + m)) - y_35)) b).bind fun y_45 =>
        ck (y_45.length == data.length) <|
        some y_45
       else
        ck (y_37.length == data.length) <|
        some y_37
     else
      if ((decide (a < y_35)) && (decide (y_35 < (IntKind.i64.wrap ((IntKind.u64.wrap (IntKind.i64.wrap (a + b))).fdiv (2 ^ (min 1 64))))))) then
       (Cj cmp n_ data a y_35 (IntKind.i64.wrap ((IntKind.u64.wrap (IntKind.i64.wrap (a + b))).fdiv (2 ^ (min 1 64))))).bind fun y_49 =>
       if ((decide ((IntKind.i64.wrap ((IntKind.u64.wrap (IntKind.i64.wrap (a + b))).fdiv (2 ^ (min 1 64)))) < (IntKind.i64.wrap ((IntKind.i64.wrap ((IntKind.i64.wrap ((IntKind.u64.wrap (IntKind.i64.wrap (a + b))).fdiv (2 ^ (min 1 64)))) + m)) - y_35)))) && (decide ((IntKind.i64.wrap ((IntKind.i64.wrap ((IntKind.i64.wrap ((IntKind.u64.wrap (IntKind.i64.wrap (a + b))).fdiv (2 ^ (min 1 64)))) + m)) - y_35)) < b))) then
        (Cj cmp n_ y_49 (IntKind.i64.wrap ((IntKind.u64.wrap (IntKind.i64.wrap (a + b))).fdiv (2 ^ (min 1 64)))) (IntKind.i64.wrap ((IntKind.i64.wrap ((IntKind.i64.wrap ((IntKind.u64.wrap (IntKind.i64.wrap (a + b))).fdiv (2 ^ (min 1 64)))) + m)) - y_35)) b).bind fun y_51 =>
        ck (y_51.length == data.length) <|
        some y_51
       else
        ck (y_49.length == data.length) <|
        some y_49
      else
       if ((decide ((IntKind.i64.wrap ((IntKind.u64.wrap (IntKind.i64.wrap (a + b))).fdiv (2 ^ (min 1 64)))) < (IntKind.i64.wrap ((IntKind.i64.wrap ((IntKind.i64.wrap ((IntKind.u64.wrap (IntKind.i64.wrap (a + b))).fdiv (2 ^ (min 1 64)))) + m)) - y_35)))) && (decide ((IntKind.i64.wrap ((IntKind.i64.wrap ((IntKind.i64.wrap ((IntKind.u64.wrap (IntKind.i64.wrap (a + b))).fdiv (2 ^ (min 1 64)))) + m)) - y_35)) < b))) then
        (Cj cmp n_ data (IntKind.i64.wrap ((IntKind.u64.wrap (IntKind.i64.wrap (a + b))).fdiv (2 ^ (min 1 64)))) (IntKind.i64.wrap ((IntKind.i64.wrap ((IntKind.i64.wrap ((IntKind.u64.wrap (IntKind.i64.wrap (a + b))).fdiv (2 ^ (min 1 64)))) + m)) - y_35)) b).bind fun y_55 =>
        ck (y_55.length == data.length) <|
        some y_55
       else
        some data
    else
     (AJ (XI cmp data a m b (IntKind.i64.wrap ((IntKind.u64.wrap (IntKind.i64.wrap (a + b))).fdiv (2 ^ (min 1 64)))) (IntKind.i64.wrap ((IntKind.i64.wrap ((IntKind.u64.wrap (IntKind.i64.wrap (a + b))).fdiv (2 ^ (min 1 64)))) + m)) (IntKind.i64.wrap ((IntKind.i64.wrap ((IntKind.i64.wrap ((IntKind.u64.wrap (IntKind.i64.wrap (a + b))).fdiv (2 ^ (min 1 64)))) + m)) - 1))) (a, m)).bind fun y_63 =>
     if ((decide (y_63 < m)) && (decide (m < (IntKind.i64.wrap ((IntKind.i64.wrap ((IntKind.i64.wrap ((IntKind.u64.wrap (IntKind.i64.wrap (a + b))).fdiv (2 ^ (min 1 64)))) + m)) - y_63))))) then
      (aH data y_63 m (IntKind.i64.wrap ((IntKind.i64.wrap ((IntKind.i64.wrap ((IntKind.u64.wrap (IntKind.i64.wrap (a + b))).fdiv (2 ^ (min 1 64)))) + m)) - y_63))).bind fun y_65 =>
      if ((decide (a < y_63)) && (decide (y_63 < (IntKind.i64.wrap ((IntKind.u64.wrap (IntKind.i64.wrap (a + b))).fdiv (2 ^ (min 1 64))))))) then
       (Cj cmp n_ y_65 a y_63 (IntKind.i64.wrap ((IntKind.u64.wrap (IntKind.i64.wrap (a + b))).fdiv (2 ^ (min 1 64))))).bind fun y_67 =>
       if ((decide ((IntKind.i64.wrap ((IntKind.u64.wrap (IntKind.i64.wrap (a + b))).fdiv (2 ^ (min 1 64)))) < (IntKind.i64.wrap ((IntKind.i64.wrap ((IntKind.i64.wrap ((IntKind.u64.wrap (IntKind.i64.wrap (a + b))).fdiv (2 ^ (min 1 64)))) + m)) - y_63)))) && (decide ((IntKind.i64.wrap ((IntKind.i64.wrap ((IntKind.i64.wrap ((IntKind.u64.wrap (IntKind.i64.wrap (a + b))).fdiv (2 ^ (min 1 64)))) + m)) - y_63)) < b))) then
        (Cj cmp n_ y_67 (IntKind.i64.wrap ((IntKind.u64.wrap (IntKind.i64.wrap (a + b))).fdiv (2 ^ (min 1 64)))) (IntKind.i64.wrap ((IntKind.i64.wrap ((IntKind.i64.wrap ((IntKind.u64.wrap (IntKind.i64.wrap (a + b))).fdiv (2 ^ (min 1 64)))) + m)) - y_63)) b).bind fun y_69 =>
        ck (y_69.length == data.length) <|
        some y_69
       else
        ck (y_67.length == data.length) <|
        some y_67
      else
       if ((decide ((IntKind.i64.wrap ((IntKind.u64.wrap (IntKind.i64.wrap (a + b))).fdiv (2 ^ (min 1 64)))) < (IntKind.i64.wrap ((IntKind.i64.wrap ((IntKind.i64.wrap ((IntKind.u64.wrap (IntKind.i64.wrap (a + b))).fdiv (2 ^ (min 1 64)))) + m)) - y_63)))) && (decide ((IntKind.i64.wrap ((IntKind.i64.wrap ((IntKind.i64.wrap ((IntKind.u64.wrap (IntKind.i64.wrap (a + b))).fdiv (2 ^ (min 1 64)))) + m)) - y_63)) < b))) then
        (Cj cmp n_ y_65 (IntKind.i64.wrap ((IntKind.u64.wrap (IntKind.i64.wrap (a + b))).fdiv (2 ^ (min 1 64)))) (IntKind.i64.wrap ((IntKind.i64.wrap ((IntKind.i64.wrap ((IntKind.u64.wrap (IntKind.i64.wrap (a + b))).fdiv (2 ^ (min 1 64)))) + m)) - y_63)) b).bind fun y_73 =>
        ck (y_73.length == data.length) <|
        some y_73
       else
        ck (y_65.length == data.length) <|
        some y_65
     else
      if ((decide (a < y_63)) && (decide (y_63 < (IntKind.i64.wrap ((IntKind.u64.wrap (IntKind.i64.wrap (a + b))).fdiv (2 ^ (min 1 64))))))) then
       (Cj cmp n_ data a y_63 (IntKind.i64.wrap ((IntKind.u64.wrap (IntKind.i64.wrap (a + b))).fdiv (2 ^ (min 1 64))))).bind fun y_77 =>
       if ((decide ((IntKind.i64.wrap ((IntKind.u64.wrap (IntKind.i64.wrap (a + b))).fdiv (2 ^ (min 1 64)))) < (IntKind.i64.wrap ((IntKind.i64.wrap ((IntKind.i64.wrap ((IntKind.u64.wrap (IntKind.i64.wrap (a + b))).fdiv (2 ^ (min 1 64)))) + m)) - y_63)))) && (decide ((IntKind.i64.wrap ((IntKind.i64.wrap ((IntKind.i64.wrap ((IntKind.u64.wrap (IntKind.i64.wrap (a + b))).fdiv (2 ^ (min 1 64)))) + m)) - y_63)) < b))) then
        (Cj cmp n_ y_77 (IntKind.i64.wrap ((IntKind.u64.wrap (IntKind.i64.wrap (a + b))).fdiv (2 ^ (min 1 64)))) (IntKind.i64.wrap ((IntKind.i64.wrap ((IntKind.i64.wrap ((IntKind.u64.wrap (IntKind.i64.wrap (a + b))).fdiv (2 ^ (min 1 64)))) + m)) - y_63)) b).bind fun y_79 =>
        ck (y_79.length == data.length) <|
        some y_79
       else
        ck (y_77.length == data.length) <|
        some y_77
      else
       if ((decide ((IntKind.i64.wrap ((IntKind.u64.wrap (IntKind.i64.wrap (a + b))).fdiv (2 ^ (min 1 64)))) < (IntKind.i64.wrap ((IntKind.i64.wrap ((IntKind.i64.wrap ((IntKind.u64.wrap (IntKind.i64.wrap (a + b))).fdiv (2 ^ (min 1 64)))) + m)) - y_63)))) && (decide ((IntKind.i64.wrap ((IntKind.i64.wrap ((IntKind.i64.wrap ((IntKind.u64.wrap (IntKind.i64.wrap (a + b))).fdiv (2 ^ (min 1 64)))) + m)) - y_63)) < b))) then
        (Cj cmp n_ data (IntKind.i64.wrap ((IntKind.u64.wrap (IntKind.i64.wrap (a + b))).fdiv (2 ^ (min 1 64)))) (IntKind.i64.wrap ((IntKind.i64.wrap ((IntKind.i64.wrap ((IntKind.u64.wrap (IntKind.i64.wrap (a + b))).fdiv (2 ^ (min 1 64)))) + m)) - y_63)) b).bind fun y_83 =>
        ck (y_83.length == data.length) <|
        some y_83
       else
        some data
noncomputable def dR {α : Type} [Inhabited α] (cmp : α → α → Option Int) (data : List α) (a : Int) (m : Int) (b : Int) : Option (List α) := Cj cmp 64 data a m b
noncomputable def KK {α : Type} [Inhabited α] (cmp : α → α → Option Int) (n : Int) (blockSize : Int) : ((List α) × Int × Int) → Option (((List α) × Int × Int) ⊕ ((List α) × Int))
 | (data, a, b) =>
  if (decide (b ≤ n)) then
   (kM cmp data a b).bind fun y_2 =>
   some (.inl (y_2, b, (IntKind.i64.wrap (b + blockSize))))
  else
   some (.inr (data, a))
noncomputable def Hu {α : Type} [Inhabited α] (cmp : α → α → Option Int) (n : Int) (blockSize : Int) : ((List α) × Int × Int) → Option (((List α) × Int × Int) ⊕ ((List α) × Int))
 | (data, a, b) =>
  if (decide (b ≤ n)) then
   (dR cmp data a (IntKind.i64.wrap (a + blockSize)) b).bind fun y_7 =>
   some (.inl (y_7, b, (IntKind.i64.wrap (b + (IntKind.i64.wrap (2 * blockSize))))))
  else
   some (.inr (data, a))
noncomputable def HW {α : Type} [Inhabited α] (cmp : α → α → Option Int) (n : Int) : ((List α) × Int) → Option (((List α) × Int) ⊕ (List α))
 | (data, blockSize) =>
  if (decide (blockSize < n)) then
   (AJ (Hu cmp n blockSize) (data, 0, (IntKind.i64.wrap (2 * blockSize)))).bind fun y_8 =>
   if (decide ((IntKind.i64.wrap (y_8.2 + blockSize)) < n)) then
    (dR cmp y_8.1 y_8.2 (IntKind.i64.wrap (y_8.2 + blockSize)) n).bind fun y_10 =>
    some (.inl (y_10, (IntKind.i64.wrap (blockSize * 2))))
   else
    some (.inl (y_8.1, (IntKind.i64.wrap (blockSize * 2))))
  else
   some (.inr data)
noncomputable def nU {α : Type} [Inhabited α] (cmp : α → α → Option Int) (data : List α) (n : Int) : Option (List α) :=
 (AJ (KK cmp n 20) (data, 0, 20)).bind fun y_3 =>
 (kM cmp y_3.1 y_3.2 n).bind fun y_4 =>
 (AJ (HW cmp n) (y_4, 20)).bind fun y_11 =>
 ck (y_11.length == data.length) <|
 some y_11
section
variable {α : Type}
structure Xo (lt : α → α → Bool) : Prop where
 asym : ∀ x y, lt x y = true → lt y x = false
 trans : ∀ x y z, lt y x = false → lt z y = false → lt z x = false
def Ig (lt : α → α → Bool) (l : List α) : Prop := l.Pairwise fun x y => lt y x = false
def nW (lt : α → α → Bool) (z x : α) : Bool := !lt x z && !lt z x
structure GF (lt : α → α → Bool) (l l' : List α) : Prop where
 perm : l'.Perm l
 same : ∀ z, l'.filter (nW lt z) = l.filter (nW lt z)
variable {lt : α → α → Bool}
theorem GF.refl (l : List α) : GF lt l l := ⟨List.Perm.refl _, fun _ => rfl⟩
theorem GF.trans {a b c : List α} (h : GF lt a b) (k : GF lt b c) : GF lt a c := ⟨k.perm.trans h.perm, fun z => (k.same z).trans (h.same z)⟩
theorem GF.app {a b c d : List α} (h : GF lt a b) (k : GF lt c d) : GF lt (a ++ c) (b ++ d) := ⟨h.perm.append k.perm, fun z => by rw [List.filter_append, List.filter_append, h.same, k.same]⟩
theorem GF.len {a b : List α} (h : GF lt a b) : b.length = a.length := h.perm.length_eq
theorem GF.mem {a b : List α} (h : GF lt a b) {x : α} : x ∈ b ↔ x ∈ a := h.perm.mem_iff
theorem NP (O : Xo lt) (x : α) : lt x x = false := by
 cases h : lt x x with
 | false => rfl
 | true => exact (O.asym x x h).symm.trans h |>.symm ▸ rfl
theorem GF.swap (O : Xo lt) {u v : List α} (h : ∀ x ∈ u, ∀ y ∈ v, lt y x = true) : GF lt (u ++ v) (v ++ u) := by
 refine ⟨List.perm_append_comm, fun z => ?_⟩
 rw [List.filter_append, List.filter_append]
 by_cases hu : u.filter (nW lt z) = []
 ·rw [hu]; simp
 ·have hv : v.filter (nW lt z) = [] := by
   rw [List.filter_eq_nil_iff]
   intro y hy hz
   obtain ⟨x, hx⟩ := List.exists_mem_of_ne_nil _ hu
   obtain ⟨hx1, hx2⟩ := List.mem_filter.1 hx
   unfold nW at hz hx2
   simp only [Bool.and_eq_true, Bool.not_eq_true'] at hz hx2
   have := O.trans x z y hx2.2 hz.1
   rw [h x hx1 y hy] at this; cases this
  rw [hv]; simp
theorem QU {u v : List α} (hu : Ig lt u) (hv : Ig lt v) (h : ∀ x ∈ u, ∀ y ∈ v, lt y x = false) : Ig lt (u ++ v) := List.pairwise_append.2 ⟨hu, hv, h⟩
theorem Zi (O : Xo lt) : ∀ {a b : List α}, Ig lt a → Ig lt b → GF lt a b → a = b
 | [], b, _, _, h => by
  have := h.len
  simp at this
  exact this.symm
 | x :: a, [], _, _, h => by
  have := h.len
  simp at this
 | x :: a, y :: b, ha, hb, h => by
  obtain ⟨pa, qa⟩ := List.pairwise_cons.1 ha
  obtain ⟨pb, qb⟩ := List.pairwise_cons.1 hb
  have hxy : lt y x = false := by
   rcases List.mem_cons.1 (h.mem.1 (List.mem_cons_self : y ∈ y :: b)) with e | e
   ·rw [e]; exact NP O x
   ·exact pa y e
  have hyx : lt x y = false := by
   rcases List.mem_cons.1 (h.mem.2 (List.mem_cons_self : x ∈ x :: a)) with e | e
   ·rw [e]; exact NP O y
   ·exact pb x e
  have hf := h.same x
  have e1 : nW lt x y = true := by unfold nW; rw [hxy, hyx]; rfl
  have e2 : nW lt x x = true := by unfold nW; rw [NP O x]; rfl
  rw [List.filter_cons, if_pos e1, List.filter_cons, if_pos e2] at hf
  have e3 : y = x := (List.cons.inj hf).1
  subst e3
  congr 1
  refine Zi O qa qb ⟨List.perm_cons _ |>.1 h.perm, fun z => ?_⟩
  have hz := h.same z
  rw [List.filter_cons, List.filter_cons] at hz
  split at hz
  ·exact (List.cons.inj hz).2
  ·exact hz
end
section
variable {α : Type} [Inhabited α] {cmp : α → α → Option Int} {lt : α → α → Bool}
def Jl (cmp : α → α → Option Int) (lt : α → α → Bool) : Prop := ∀ x y, ∃ k, cmp x y = some k ∧ decide (k < 0) = lt x y
theorem Ym (P : List α) (x : α) (R : List α) : (P ++ x :: R).getD P.length default = x := by
 rw [List.getD_eq_getElem?_getD, List.getElem?_append_right (Nat.le_refl _), Nat.sub_self]; rfl
theorem gC (P : List α) (x y : α) (R : List α) : (P ++ x :: R).set P.length y = P ++ y :: R := by
 rw [List.set_append_right _ _ (Nat.le_refl _), Nat.sub_self]; rfl
theorem kL (P : List α) (x y : α) (R : List α) : (P ++ x :: y :: R).getD (P.length + 1) default = y := by
 have := Ym (P ++ [x]) y R
 simpa using this
theorem oD (P : List α) (x y z : α) (R : List α) : (P ++ x :: y :: R).set (P.length + 1) z = P ++ x :: z :: R := by
 have := gC (P ++ [x]) y z R
 simpa using this
theorem Ze (P : List α) (x y : α) (R : List α) : ((P ++ x :: y :: R).set (P.length + 1) x).set P.length y = P ++ y :: x :: R ∧ ((P ++ x :: y :: R).set P.length y).set (P.length + 1) x = P ++ y :: x :: R := by
 rw [oD, gC, gC, oD]; exact ⟨rfl, rfl⟩
theorem wn {n : Nat} (h : n ≤ 9223372036854775807) : IntKind.i64.wrap (n : Int) = (n : Int) := AX (by omega) (by omega)
theorem OL (hc : Jl cmp lt) (P : List α) (x y : α) (R : List α) {a : Nat} (b i : Int) (ha : a ≤ P.length) (hl : (P ++ y :: x :: R).length ≤ 1099511627776) :
  KM cmp (a : Int) b i (P ++ y :: x :: R, ((P.length + 1 : Nat) : Int)) = some (if lt x y = true then .inl (P ++ x :: y :: R, (P.length : Int)) else .inr (P ++ y :: x :: R)) := by
 have hlen : (P ++ y :: x :: R).length = P.length + (R.length + 2) := by simp
 have w1 : IntKind.i64.wrap (((P.length + 1 : Nat) : Int) - 1) = (P.length : Int) := by rw [AX (by omega) (by omega)]; omega
 have e0 : decide ((a : Int) < ((P.length + 1 : Nat) : Int)) = true := decide_eq_true (by omega)
 have o1 : BB ((P.length + 1 : Nat) : Int) (P ++ y :: x :: R).length = true := DL (by omega) (by omega)
 have o2 : BB (P.length : Int) (P ++ y :: x :: R).length = true := DL (by omega) (by omega)
 obtain ⟨k, hk, hlt⟩ := hc x y
 unfold KM
 simp only [w1, e0, o1, o2, Int.toNat_natCast, Ym, kL, hk, hlt, Option.isSome_some, Option.getD_some, Bool.not_true, Bool.false_or, Bool.true_and, AN]
 rw [(Ze P y x R).1]
 split <;> rfl
theorem jy (D : List α) (a : Nat) (b i : Int) : KM cmp (a : Int) b i (D, (a : Int)) = some (.inr D) := by
 unfold KM
 simp [AN]
theorem rk (hc : Jl cmp lt) (O : Xo lt) (pre suf : List α) (b i : Int) (x : α) : ∀ (n : Nat) (s1 s2 : List α), s1.length = n → Ig lt (s1 ++ s2) → (∀ z ∈ s2, lt x z = true) →
  (pre ++ (s1 ++ x :: (s2 ++ suf))).length ≤ 1099511627776 →
  ∃ w, AJ (KM cmp (pre.length : Int) b i) (pre ++ (s1 ++ x :: (s2 ++ suf)), ((pre.length + s1.length : Nat) : Int)) = some (pre ++ (w ++ suf)) ∧ Ig lt w ∧ GF lt (s1 ++ s2 ++ [x]) w := by
 intro n
 induction n with
 | zero =>
  intro s1 s2 hn hs hx hl
  obtain rfl := List.length_eq_zero_iff.1 hn
  refine ⟨x :: s2, Ae (jy _ _ _ _), List.pairwise_cons.2 ⟨fun z hz => O.asym _ _ (hx z hz), (show Ig lt s2 by simpa using hs)⟩, ?_⟩
  have := GF.swap O (u := s2) (v := [x]) (fun z hz y hy => by rw [List.mem_singleton.1 hy]; exact hx z hz)
  simpa using this
 | succ n ih =>
  intro s1 s2 hn hs hx hl
  obtain ⟨t, y, rfl⟩ : ∃ t y, s1 = t ++ [y] := ⟨s1.dropLast, s1.getLast (by intro e; rw [e] at hn; simp at hn), (List.dropLast_concat_getLast _).symm⟩
  have ht : t.length = n := by simpa using hn
  have e : pre ++ (t ++ [y] ++ x :: (s2 ++ suf)) = (pre ++ t) ++ y :: x :: (s2 ++ suf) := by simp
  have st := OL hc (pre ++ t) x y (s2 ++ suf) (a := pre.length) b i (by simp) (by rw [← e]; exact hl)
  have el : pre.length + (t ++ [y]).length = (pre ++ t).length + 1 := by simp; omega
  rw [el, e]
  by_cases q : lt x y = true
  ·rw [if_pos q] at st
   rw [Ah st]
   have e2 : (pre ++ t) ++ x :: y :: (s2 ++ suf) = pre ++ (t ++ x :: (y :: s2 ++ suf)) := by simp
   have el2 : ((pre ++ t).length : Int) = ((pre.length + t.length : Nat) : Int) := by simp
   rw [e2, el2]
   obtain ⟨w, h1, h2, h3⟩ := ih t (y :: s2) ht (by simpa using hs) (fun z hz => by
    rcases List.mem_cons.1 hz with rfl | hz
    ·exact q
    ·exact hx z hz) (by rw [← e2]; rw [e] at hl; simpa using hl)
   exact ⟨w, h1, h2, by simpa using h3⟩
  ·rw [if_neg q] at st
   have q' : lt x y = false := by simpa using q
   refine ⟨t ++ [y] ++ x :: s2, ?_, ?_, ?_⟩
   ·rw [Ae st]; simp
   ·have hs' := List.pairwise_append.1 hs
    refine QU hs'.1 (List.pairwise_cons.2 ⟨fun z hz => O.asym _ _ (hx z hz), hs'.2.1⟩) fun z hz v hv => ?_
    have hy : lt y z = false := by
     rcases List.mem_append.1 hz with h | h
     ·exact (List.pairwise_append.1 hs'.1).2.2 z h y (by simp)
     ·rw [List.mem_singleton.1 h]; exact NP O y
    rcases List.mem_cons.1 hv with rfl | hv
    ·exact O.trans _ _ _ hy q'
    ·exact hs'.2.2 z hz v hv
   ·have := (GF.refl (lt := lt) (t ++ [y])).app (GF.swap O (u := s2) (v := [x]) (fun z hz v hv => by rw [List.mem_singleton.1 hv]; exact hx z hz))
    simpa using this
theorem bW (hc : Jl cmp lt) (O : Xo lt) (pre suf : List α) : ∀ (t s : List α), Ig lt s → (pre ++ (s ++ (t ++ suf))).length ≤ 1099511627776 →
  ∃ w, AJ (Ld cmp (pre.length : Int) ((pre.length + (s.length + t.length) : Nat) : Int)) (pre ++ (s ++ (t ++ suf)), ((pre.length + s.length : Nat) : Int)) = some (pre ++ (w ++ suf)) ∧ Ig lt w ∧ GF lt (s ++ t) w
 | [], s, hs, hl => ⟨s, Ae (by unfold Ld; dsimp only; rw [if_neg (by simp)]; simp), hs, by rw [List.append_nil]; exact GF.refl _⟩
 | x :: t, s, hs, hl => by
  have hl' : pre.length + (s.length + (t.length + 1 + suf.length)) ≤ 1099511627776 := by simpa [Nat.add_assoc, Nat.add_comm, Nat.add_left_comm] using hl
  obtain ⟨w1, h1, h2, h3⟩ := rk hc O pre (t ++ suf) ((pre.length + (s.length + (x :: t).length) : Nat) : Int) ((pre.length + s.length : Nat) : Int) x s.length s [] rfl (by simpa using hs) (by simp) (by simpa using hl)
  have e3 : GF lt (s ++ [x]) w1 := by simpa using h3
  have hw : w1.length = s.length + 1 := by rw [e3.len]; simp
  have st : Ld cmp (pre.length : Int) ((pre.length + (s.length + (x :: t).length) : Nat) : Int) (pre ++ (s ++ (x :: t ++ suf)), ((pre.length + s.length : Nat) : Int)) = some (.inl (pre ++ (w1 ++ (t ++ suf)), ((pre.length + w1.length : Nat) : Int))) := by
   unfold Ld
   have e0 : decide (((pre.length + s.length : Nat) : Int) < ((pre.length + (s.length + (x :: t).length) : Nat) : Int)) = true := decide_eq_true (by simp; omega)
   simp only [e0, if_true]
   have h1' : AJ (KM cmp (pre.length : Int) ((pre.length + (s.length + (x :: t).length) : Nat) : Int) ((pre.length + s.length : Nat) : Int)) (pre ++ (s ++ (x :: t ++ suf)), ((pre.length + s.length : Nat) : Int)) = some (pre ++ (w1 ++ (t ++ suf))) := by simpa using h1
   rw [h1', Option.bind_some, BR (by omega), hw]
   rfl
  rw [Ah st]
  obtain ⟨w, k1, k2, k3⟩ := bW hc O pre suf t w1 h2 (by simp [hw]; omega)
  refine ⟨w, ?_, k2, ?_⟩
  ·have : pre.length + (s.length + (x :: t).length) = pre.length + (w1.length + t.length) := by rw [hw]; simp; omega
   rw [this]; exact k1
  ·have := GF.trans (e3.app (GF.refl t)) k3
   simpa using this
theorem jz (hc : Jl cmp lt) (O : Xo lt) (pre seg suf : List α) (hl : (pre ++ (seg ++ suf)).length ≤ 1099511627776) :
  ∃ w, kM cmp (pre ++ (seg ++ suf)) (pre.length : Int) ((pre.length + seg.length : Nat) : Int) = some (pre ++ (w ++ suf)) ∧ Ig lt w ∧ GF lt seg w := by
 have hl' : pre.length + (seg.length + suf.length) ≤ 1099511627776 := by simpa using hl
 unfold kM
 rw [BR (by omega)]
 cases seg with
 | nil =>
  refine ⟨[], ?_, List.Pairwise.nil, GF.refl _⟩
  rw [Ae (r := pre ++ ([] ++ suf)) (by unfold Ld; dsimp only; rw [if_neg (by simp; omega)])]
  simp [AN]
 | cons x t =>
  obtain ⟨w, k1, k2, k3⟩ := bW hc O pre suf t [x] (List.pairwise_singleton _ _) (by simpa using hl)
  refine ⟨w, ?_, k2, by simpa using k3⟩
  have hw : w.length = t.length + 1 := by rw [k3.len]; simp
  have e : pre.length + ([x].length + t.length) = pre.length + (x :: t).length := by simp; omega
  have e2 : pre ++ ([x] ++ (t ++ suf)) = pre ++ (x :: t ++ suf) := by simp
  have e3 : ((pre.length + [x].length : Nat) : Int) = ((pre.length + 1 : Nat) : Int) := rfl
  rw [e, e2, e3] at k1
  rw [k1, Option.bind_some]
  have : ((pre ++ (w ++ suf)).length == (pre ++ (x :: t ++ suf)).length) = true := by simp [hw]; omega
  rw [this, AN]
end
section
variable {α : Type} [Inhabited α]
theorem Xs (suf : List α) (a b n : Nat) (hb : b ≤ 1099511627776) (ha : a ≤ 1099511627776) (hn : n ≤ 1099511627776) : ∀ (x y pre mid : List α) (i : Nat), x.length = y.length → a + i = pre.length → b + i = pre.length + x.length + mid.length → i + x.length = n →
  AJ (OS (α := α) (a : Int) (b : Int) (n : Int)) (pre ++ (x ++ (mid ++ (y ++ suf))), (i : Int)) = some (pre ++ (y ++ (mid ++ (x ++ suf))))
 | [], [], pre, mid, i, _, _, _, h => Ae (by
   have : i = n := by simpa using h
   unfold OS; dsimp only; rw [if_neg (by simp [this])])
 | [], _ :: _, _, _, _, h, _, _, _ => by simp at h
 | _ :: _, [], _, _, _, h, _, _, _ => by simp at h
 | x1 :: x, y1 :: y, pre, mid, i, h, h1, h2, h3 => by
  have hxy : x.length = y.length := by simpa using h
  simp only [List.length_cons] at h2 h3
  have w1 : IntKind.i64.wrap ((a : Int) + (i : Int)) = (pre.length : Int) := by rw [AX (by omega) (by omega)]; omega
  have w2 : IntKind.i64.wrap ((b : Int) + (i : Int)) = ((pre ++ x1 :: (x ++ mid)).length : Int) := by
   have : (pre ++ x1 :: (x ++ mid)).length = b + i := by simp; omega
   rw [this, AX (by omega) (by omega)]; omega
  have e1 : pre ++ (x1 :: x ++ (mid ++ (y1 :: y ++ suf))) = (pre ++ x1 :: (x ++ mid)) ++ y1 :: (y ++ suf) := by simp
  have e2 : pre ++ (x1 :: x ++ (mid ++ (y1 :: y ++ suf))) = pre ++ x1 :: (x ++ (mid ++ (y1 :: y ++ suf))) := by simp
  have g1 : (pre ++ (x1 :: x ++ (mid ++ (y1 :: y ++ suf)))).getD pre.length default = x1 := by rw [e2]; exact Ym _ _ _
  have g2 : (pre ++ (x1 :: x ++ (mid ++ (y1 :: y ++ suf)))).getD (pre ++ x1 :: (x ++ mid)).length default = y1 := by rw [e1]; exact Ym _ _ _
  have s1 : ((pre ++ (x1 :: x ++ (mid ++ (y1 :: y ++ suf)))).set pre.length y1).set (pre ++ x1 :: (x ++ mid)).length x1 = (pre ++ [y1]) ++ (x ++ ((mid ++ [x1]) ++ (y ++ suf))) := by
   rw [e2, gC]
   have : pre ++ y1 :: (x ++ (mid ++ (y1 :: y ++ suf))) = (pre ++ y1 :: (x ++ mid)) ++ y1 :: (y ++ suf) := by simp
   have l : (pre ++ x1 :: (x ++ mid)).length = (pre ++ y1 :: (x ++ mid)).length := by simp
   rw [this, l, gC]; simp
  have o1 : BB (pre.length : Int) (pre ++ (x1 :: x ++ (mid ++ (y1 :: y ++ suf)))).length = true := DL (by omega) (by simp; omega)
  have o2 : BB ((pre ++ x1 :: (x ++ mid)).length : Int) (pre ++ (x1 :: x ++ (mid ++ (y1 :: y ++ suf)))).length = true := DL (by omega) (by rw [e1]; simp; omega)
  have st : OS (a : Int) (b : Int) (n : Int) (pre ++ (x1 :: x ++ (mid ++ (y1 :: y ++ suf))), (i : Int)) = some (.inl ((pre ++ [y1]) ++ (x ++ ((mid ++ [x1]) ++ (y ++ suf))), ((i + 1 : Nat) : Int))) := by
   unfold OS
   have e0 : decide ((i : Int) < (n : Int)) = true := decide_eq_true (by omega)
   simp only [e0, if_true, w1, w2, o1, o2, AN, Int.toNat_natCast, g1, g2, s1, BR (show i < 9223372036854775807 by omega)]
  rw [Ah st, Xs suf a b n hb ha hn x y (pre ++ [y1]) (mid ++ [x1]) (i + 1) hxy (by simp; omega) (by simp; omega) (by omega)]
  simp
theorem Zh (pre x mid y suf : List α) (h : x.length = y.length) (hl : (pre ++ (x ++ (mid ++ (y ++ suf)))).length ≤ 1099511627776) {a b n : Int} (ha : a = (pre.length : Int)) (hb : b = ((pre.length + x.length + mid.length : Nat) : Int)) (hn : n = (x.length : Int)) :
  dS (pre ++ (x ++ (mid ++ (y ++ suf)))) a b n = some (pre ++ (y ++ (mid ++ (x ++ suf)))) := by
 subst ha hb hn
 have hl' : pre.length + (x.length + (mid.length + (y.length + suf.length))) ≤ 1099511627776 := by simpa using hl
 unfold dS
 have := Xs suf pre.length (pre.length + x.length + mid.length) x.length (by omega) (by omega) (by omega) x y pre mid 0 h rfl rfl (by omega)
 have e0 : ((0 : Nat) : Int) = 0 := rfl
 rw [e0] at this
 rw [this, Option.bind_some]
 have e : ((pre ++ (y ++ (mid ++ (x ++ suf)))).length == (pre ++ (x ++ (mid ++ (y ++ suf)))).length) = true := by simp [h]
 rw [e, AN]
theorem gE (m : Nat) (hm : m ≤ 1099511627776) : ∀ (k : Nat) (u v A B : List α), u.length + v.length ≤ k → 0 < u.length → 0 < v.length → m = A.length + u.length → (A ++ (u ++ (v ++ B))).length ≤ 1099511627776 →
  ∃ A' u' v' B', AJ (KL (α := α) (m : Int)) (A ++ (u ++ (v ++ B)), (u.length : Int), (v.length : Int)) = some (A' ++ (u' ++ (v' ++ B')), (u'.length : Int)) ∧ u'.length = v'.length ∧ m = A'.length + u'.length ∧ A' ++ (v' ++ (u' ++ B')) = A ++ (v ++ (u ++ B)) ∧ (A' ++ (u' ++ (v' ++ B'))).length = (A ++ (u ++ (v ++ B))).length := by
 intro k
 induction k with
 | zero => intro u v A B h hu hv; omega
 | succ k ih =>
  intro u v A B h hu hv hA hl
  have hl' : A.length + (u.length + (v.length + B.length)) ≤ 1099511627776 := by simpa using hl
  by_cases q : u.length = v.length
  ·refine ⟨A, u, v, B, Ae ?_, q, hA, rfl, rfl⟩
   unfold KL; dsimp only
   rw [if_neg (by simp [q])]
  ·have q1 : (!((u.length : Int) == (v.length : Int))) = true := by simp; omega
   have wm : IntKind.i64.wrap ((m : Int) - (u.length : Int)) = (A.length : Int) := by rw [AX (by omega) (by omega)]; omega
   by_cases q2 : v.length < u.length
   ·obtain ⟨u1, u2, rfl, h1⟩ : ∃ u1 u2, u = u1 ++ u2 ∧ u1.length = v.length := ⟨u.take v.length, u.drop v.length, (List.take_append_drop _ _).symm, by simp; omega⟩
    have hu12 : (u1 ++ u2).length = u1.length + u2.length := List.length_append
    have e : A ++ (u1 ++ u2 ++ (v ++ B)) = A ++ (u1 ++ (u2 ++ (v ++ B))) := by simp
    have sw := Zh A u1 u2 v B h1 (by rw [← e]; exact hl) (a := (A.length : Int)) (b := (m : Int)) (n := (v.length : Int)) rfl (by omega) (by omega)
    have st : KL (m : Int) (A ++ (u1 ++ u2 ++ (v ++ B)), ((u1 ++ u2).length : Int), (v.length : Int)) = some (.inl ((A ++ v) ++ (u2 ++ (u1 ++ B)), (u2.length : Int), (u1.length : Int))) := by
     unfold KL
     have q3 : decide ((v.length : Int) < ((u1 ++ u2).length : Int)) = true := decide_eq_true (by omega)
     have w2 : IntKind.i64.wrap (((u1 ++ u2).length : Int) - (v.length : Int)) = (u2.length : Int) := by rw [AX (by omega) (by omega)]; omega
     simp only [q1, if_true, q3, wm, w2]
     rw [e, sw, Option.bind_some, h1]
     simp
    obtain ⟨A', u', v', B', r1, r2, r3, r4, r5⟩ := ih u2 u1 (A ++ v) B (by omega) (by omega) (by omega) (by simp; omega) (by simp; omega)
    refine ⟨A', u', v', B', by rw [Ah st]; exact r1, r2, r3, by rw [r4]; simp, by rw [r5]; simp; omega⟩
   ·obtain ⟨v1, v2, rfl, h1⟩ : ∃ v1 v2, v = v1 ++ v2 ∧ v2.length = u.length := ⟨v.take (v.length - u.length), v.drop (v.length - u.length), (List.take_append_drop _ _).symm, by simp; omega⟩
    have hv12 : (v1 ++ v2).length = v1.length + v2.length := List.length_append
    have e : A ++ (u ++ (v1 ++ v2 ++ B)) = A ++ (u ++ (v1 ++ (v2 ++ B))) := by simp
    have sw := Zh A u v1 v2 B h1.symm (by rw [← e]; exact hl) (a := (A.length : Int)) (b := ((A.length + u.length + v1.length : Nat) : Int)) (n := (u.length : Int)) rfl rfl rfl
    have st : KL (m : Int) (A ++ (u ++ (v1 ++ v2 ++ B)), (u.length : Int), ((v1 ++ v2).length : Int)) = some (.inl (A ++ (v2 ++ (v1 ++ (u ++ B))), (v2.length : Int), (v1.length : Int))) := by
     unfold KL
     have q3 : decide (((v1 ++ v2).length : Int) < (u.length : Int)) = false := decide_eq_false (by omega)
     have w2 : IntKind.i64.wrap (((v1 ++ v2).length : Int) - (u.length : Int)) = (v1.length : Int) := by rw [AX (by omega) (by omega)]; omega
     have w3 : IntKind.i64.wrap (IntKind.i64.wrap ((m : Int) + ((v1 ++ v2).length : Int)) - (u.length : Int)) = ((A.length + u.length + v1.length : Nat) : Int) := by
      rw [AX (n := (m : Int) + ((v1 ++ v2).length : Int)) (by omega) (by omega), AX (by omega) (by omega)]; omega
     simp only [q1, if_true, q3, wm, w2, w3, Bool.false_eq_true, if_false]
     rw [e, sw, Option.bind_some, h1]
    obtain ⟨A', u', v', B', r1, r2, r3, r4, r5⟩ := ih v2 v1 A (u ++ B) (by omega) (by omega) (by omega) (by omega) (by simp; omega)
    refine ⟨A', u', v', B', by rw [Ah st]; exact r1, r2, r3, by rw [r4]; simp, by rw [r5]; simp; omega⟩
theorem pg (A u v B : List α) (hu : 0 < u.length) (hv : 0 < v.length) (hl : (A ++ (u ++ (v ++ B))).length ≤ 1099511627776) :
  aH (A ++ (u ++ (v ++ B))) (A.length : Int) ((A.length + u.length : Nat) : Int) ((A.length + u.length + v.length : Nat) : Int) = some (A ++ (v ++ (u ++ B))) := by
 have hl' : A.length + (u.length + (v.length + B.length)) ≤ 1099511627776 := by simpa using hl
 obtain ⟨A', u', v', B', r1, r2, r3, r4, r5⟩ := gE (A.length + u.length) (by omega) _ u v A B (Nat.le_refl _) hu hv rfl hl
 unfold aH
 have w1 : IntKind.i64.wrap (((A.length + u.length : Nat) : Int) - (A.length : Int)) = (u.length : Int) := by rw [AX (by omega) (by omega)]; omega
 have w2 : IntKind.i64.wrap (((A.length + u.length + v.length : Nat) : Int) - ((A.length + u.length : Nat) : Int)) = (v.length : Int) := by rw [AX (by omega) (by omega)]; omega
 rw [w1, w2, r1, Option.bind_some]
 dsimp only
 have w3 : IntKind.i64.wrap (((A.length + u.length : Nat) : Int) - (u'.length : Int)) = (A'.length : Int) := by rw [r3, AX (by omega) (by omega)]; omega
 have sw := Zh A' u' [] v' B' r2 (by simp only [List.nil_append]; rw [r5]; exact hl) (a := (A'.length : Int)) (b := ((A.length + u.length : Nat) : Int)) (n := (u'.length : Int)) rfl (by rw [r3]; simp) rfl
 simp only [List.nil_append] at sw
 rw [w3, sw, Option.bind_some, r4]
 have e : ((A ++ (v ++ (u ++ B))).length == (A ++ (u ++ (v ++ B))).length) = true := by simp; omega
 rw [e, AN]
end
section
variable {α : Type} [Inhabited α] {cmp : α → α → Option Int} {lt : α → α → Bool}
theorem lA {step : Int × Int → Option ((Int × Int) ⊕ Int)} (P : Nat → Bool) (lo hi : Nat) (hmono : ∀ c d, lo ≤ c → c ≤ d → d < hi → P c = true → P d = true)
  (hs : ∀ i j : Nat, lo ≤ i → i < j → j ≤ hi → step ((i : Int), (j : Int)) = some (.inl (if P ((i + j) / 2) = true then ((i : Int), (((i + j) / 2 : Nat) : Int)) else ((((i + j) / 2 + 1 : Nat) : Int), (j : Int)))))
  (he : ∀ i : Nat, step ((i : Int), (i : Int)) = some (.inr (i : Int))) (hlh : lo ≤ hi) :
  ∃ s : Nat, lo ≤ s ∧ s ≤ hi ∧ AJ step ((lo : Int), (hi : Int)) = some (s : Int) ∧ (∀ c, lo ≤ c → c < s → P c = false) ∧ (∀ c, s ≤ c → c < hi → P c = true) := by
 have key : ∀ (k i j : Nat), j - i ≤ k → lo ≤ i → i ≤ j → j ≤ hi → (∀ c, lo ≤ c → c < i → P c = false) → (∀ c, j ≤ c → c < hi → P c = true) →
   ∃ s : Nat, lo ≤ s ∧ s ≤ hi ∧ AJ step ((i : Int), (j : Int)) = some (s : Int) ∧ (∀ c, lo ≤ c → c < s → P c = false) ∧ (∀ c, s ≤ c → c < hi → P c = true) := by
  intro k
  induction k with
  | zero =>
   intro i j h1 h2 h3 h4 h5 h6
   obtain rfl : i = j := by omega
   exact ⟨i, h2, h4, Ae (he i), h5, h6⟩
  | succ k ih =>
   intro i j h1 h2 h3 h4 h5 h6
   by_cases q : i = j
   ·subst q
    exact ⟨i, h2, h4, Ae (he i), h5, h6⟩
   ·have st := hs i j h2 (by omega) h4
    by_cases p : P ((i + j) / 2) = true
    ·rw [if_pos p] at st
     rw [Ah st]
     exact ih i ((i + j) / 2) (by omega) h2 (by omega) (by omega) h5 fun c hc1 hc2 => hmono _ c (by omega) hc1 hc2 p
    ·rw [if_neg p] at st
     rw [Ah st]
     refine ih ((i + j) / 2 + 1) j (by omega) (by omega) (by omega) h4 (fun c hc1 hc2 => ?_) h6
     cases hp : P c with
     | false => rfl
     | true => exact absurd (hmono c _ hc1 (by omega) (by omega) hp) p
 exact key (hi - lo) lo hi (Nat.le_refl _) (Nat.le_refl _) hlh (Nat.le_refl _) (fun c _ h => by omega) (fun c h1 h2 => by omega)
theorem fK {n : Int} (h0 : 0 ≤ n) (h1 : n < 18446744073709551616) : IntKind.u64.wrap n = n := by
 unfold IntKind.wrap IntKind.bits
 simp [IntKind.signed]
 omega
theorem ON {i j : Nat} (h : i + j ≤ 4611686018427387904) : IntKind.i64.wrap ((IntKind.u64.wrap (IntKind.i64.wrap ((i : Int) + (j : Int)))).fdiv (2 ^ (min 1 64))) = (((i + j) / 2 : Nat) : Int) := by
 rw [AX (n := (i : Int) + (j : Int)) (by omega) (by omega), fK (by omega) (by omega)]
 have : ((i : Int) + (j : Int)).fdiv (2 ^ (min 1 64)) = (((i + j) / 2 : Nat) : Int) := by
  rw [show (2 : Int) ^ (min 1 64) = 2 by decide, Int.fdiv_eq_ediv_of_nonneg _ (by omega)]
  omega
 rw [this, AX (by omega) (by omega)]
theorem bc (pre u r : List α) {t : Nat} (h : t < u.length) : (pre ++ (u ++ r)).getD (pre.length + t) default = u.getD t default := by
 rw [List.getD_eq_getElem?_getD, List.getElem?_append_right (by omega), show pre.length + t - pre.length = t by omega, List.getElem?_append_left h, List.getD_eq_getElem?_getD]
theorem Kc (O : Xo lt) {l : List α} (h : Ig lt l) {i j : Nat} (hij : i ≤ j) (hj : j < l.length) : lt (l.getD j default) (l.getD i default) = false := by
 rcases Nat.eq_or_lt_of_le hij with e | e
 ·subst e; exact NP O _
 ·have := List.pairwise_iff_getElem.1 h i j (by omega) hj e
  rw [CR hj, CR (show i < l.length by omega)]
  exact this
theorem bQ (R : List α) (i : Nat) (hi : i ≤ 1099511627776) (x : α) : ∀ (v pre : List α), i = pre.length + v.length + 1 → AJ (OR (α := α) (i : Int)) (pre ++ x :: (v ++ R), (pre.length : Int)) = some (pre ++ (v ++ x :: R))
 | [], pre, h => Ae (by
   have w : IntKind.i64.wrap ((i : Int) - 1) = (pre.length : Int) := by rw [AX (by omega) (by omega)]; simp at h; omega
   unfold OR; dsimp only; rw [w, if_neg (by simp)]; rfl)
 | y :: v, pre, h => by
  have h' : i = pre.length + (v.length + 1) + 1 := by simpa using h
  have w : IntKind.i64.wrap ((i : Int) - 1) = ((pre.length + (v.length + 1) : Nat) : Int) := by rw [AX (by omega) (by omega)]; omega
  have w1 : IntKind.i64.wrap ((pre.length : Int) + 1) = ((pre.length + 1 : Nat) : Int) := BR (by omega)
  have e0 : decide ((pre.length : Int) < ((pre.length + (v.length + 1) : Nat) : Int)) = true := decide_eq_true (by omega)
  have hl : (pre ++ x :: (y :: v ++ R)).length = pre.length + (v.length + R.length + 2) := by simp; try omega
  have o1 : BB ((pre.length + 1 : Nat) : Int) (pre ++ x :: (y :: v ++ R)).length = true := DL (by omega) (by omega)
  have o2 : BB (pre.length : Int) (pre ++ x :: (y :: v ++ R)).length = true := DL (by omega) (by omega)
  have g0 : (pre ++ x :: (y :: v ++ R)).getD pre.length default = x := Ym _ _ _
  have g1 : (pre ++ x :: (y :: v ++ R)).getD (pre.length + 1) default = y := kL pre x y (v ++ R)
  have s1 : ((pre ++ x :: (y :: v ++ R)).set pre.length y).set (pre.length + 1) x = (pre ++ [y]) ++ x :: (v ++ R) := by
   have := (Ze pre x y (v ++ R)).2
   rw [List.append_assoc]; exact this
  have st : OR (i : Int) (pre ++ x :: (y :: v ++ R), (pre.length : Int)) = some (.inl ((pre ++ [y]) ++ x :: (v ++ R), ((pre.length + 1 : Nat) : Int))) := by
   unfold OR
   simp only [w, w1, e0, o1, o2, if_true, AN, Int.toNat_natCast, g0, g1, s1]
  have el : ((pre.length + 1 : Nat) : Int) = ((pre ++ [y]).length : Int) := by simp
  rw [Ah st, el, bQ R i hi x v (pre ++ [y]) (by simp; omega)]
  simp
theorem mc (pre : List α) (hp : pre.length ≤ 1099511627776) (y : α) : ∀ (n : Nat) (u R : List α), u.length = n → (pre ++ (u ++ y :: R)).length ≤ 1099511627776 →
  AJ (OQ (α := α) (pre.length : Int)) (pre ++ (u ++ y :: R), ((pre.length + u.length : Nat) : Int)) = some (pre ++ (y :: (u ++ R))) := by
 intro n
 induction n with
 | zero =>
  intro u R hn hl
  obtain rfl := List.length_eq_zero_iff.1 hn
  refine Ae ?_
  unfold OQ; dsimp only; rw [if_neg (by simp)]; rfl
 | succ n ih =>
  intro u R hn hl
  obtain ⟨t, x, rfl⟩ : ∃ t x, u = t ++ [x] := ⟨u.dropLast, u.getLast (by intro e; rw [e] at hn; simp at hn), (List.dropLast_concat_getLast _).symm⟩
  have ht : t.length = n := by simpa using hn
  have e : pre ++ (t ++ [x] ++ y :: R) = (pre ++ t) ++ x :: y :: R := by simp
  have el : pre.length + (t ++ [x]).length = (pre ++ t).length + 1 := by simp; omega
  have hl' : (pre ++ t).length + (R.length + 2) ≤ 1099511627776 := by rw [e] at hl; simpa [Nat.add_assoc] using hl
  have hlen : ((pre ++ t) ++ x :: y :: R).length = (pre ++ t).length + (R.length + 2) := by simp; try omega
  rw [el, e]
  have w1 : IntKind.i64.wrap ((((pre ++ t).length + 1 : Nat) : Int) - 1) = ((pre ++ t).length : Int) := by rw [AX (by omega) (by omega)]; omega
  have e0 : decide ((pre.length : Int) < (((pre ++ t).length + 1 : Nat) : Int)) = true := decide_eq_true (by simp; omega)
  have o1 : BB (((pre ++ t).length + 1 : Nat) : Int) ((pre ++ t) ++ x :: y :: R).length = true := DL (by omega) (by omega)
  have o2 : BB ((pre ++ t).length : Int) ((pre ++ t) ++ x :: y :: R).length = true := DL (by omega) (by omega)
  have st : OQ (pre.length : Int) ((pre ++ t) ++ x :: y :: R, (((pre ++ t).length + 1 : Nat) : Int)) = some (.inl ((pre ++ t) ++ y :: x :: R, ((pre ++ t).length : Int))) := by
   unfold OQ
   simp only [w1, e0, o1, o2, if_true, AN, Int.toNat_natCast, Ym, kL]
   rw [(Ze (pre ++ t) x y R).1]
  rw [Ah st]
  have e2 : (pre ++ t) ++ y :: x :: R = pre ++ (t ++ y :: (x :: R)) := by simp
  have el2 : ((pre ++ t).length : Int) = ((pre.length + t.length : Nat) : Int) := by simp
  rw [e2, el2, ih t (x :: R) ht (by rw [← e2]; rw [e] at hl; simpa using hl)]
  simp
end
section
variable {α : Type} [Inhabited α] {cmp : α → α → Option Int} {lt : α → α → Bool}
theorem fZ (hc : Jl cmp lt) (O : Xo lt) (k : Nat) (pre : List α) (x : α) (v suf : List α) (hv : Ig lt v) (hl : (pre ++ (x :: (v ++ suf))).length ≤ 1099511627776) :
  ∃ w, Cj cmp (k + 1) (pre ++ (x :: (v ++ suf))) (pre.length : Int) ((pre.length + 1 : Nat) : Int) ((pre.length + 1 + v.length : Nat) : Int) = some (pre ++ (w ++ suf)) ∧ Ig lt w ∧ GF lt (x :: v) w := by
 have hl' : pre.length + (v.length + suf.length + 1) ≤ 1099511627776 := by simpa [Nat.add_assoc] using hl
 have hlen : (pre ++ (x :: (v ++ suf))).length = pre.length + (v.length + suf.length + 1) := by simp
 have e : pre ++ (x :: (v ++ suf)) = (pre ++ [x]) ++ (v ++ suf) := by simp
 have hD : ∀ h, pre.length + 1 ≤ h → h < pre.length + 1 + v.length → (pre ++ (x :: (v ++ suf))).getD h default = v.getD (h - (pre.length + 1)) default := fun h h1 h2 => by
  have := bc (pre ++ [x]) v suf (t := h - (pre.length + 1)) (by omega)
  rw [← e] at this
  rw [← this]; congr 1; simp; omega
 obtain ⟨s, s1, s2, s3, s4, s5⟩ := lA (step := Rz cmp (pre ++ (x :: (v ++ suf))) (pre.length : Int)) (fun h => !(lt (v.getD (h - (pre.length + 1)) default) x)) (pre.length + 1) (pre.length + 1 + v.length)
  (fun c d h1 h2 h3 hp => by
   simp only [Bool.not_eq_true'] at hp ⊢
   exact O.trans _ _ _ hp (Kc O hv (i := c - (pre.length + 1)) (j := d - (pre.length + 1)) (by omega) (by omega)))
  (fun i j h1 h2 h3 => by
   have hh := ON (i := i) (j := j) (by omega)
   obtain ⟨q, hq, hlt⟩ := hc (v.getD ((i + j) / 2 - (pre.length + 1)) default) x
   have e0 : decide ((i : Int) < (j : Int)) = true := decide_eq_true (by omega)
   have o1 : BB (((i + j) / 2 : Nat) : Int) (pre ++ (x :: (v ++ suf))).length = true := DL (by omega) (by omega)
   have o2 : BB (pre.length : Int) (pre ++ (x :: (v ++ suf))).length = true := DL (by omega) (by omega)
   unfold Rz
   simp only [e0, if_true, hh, o1, o2, AN, Mx (show (0 : Int) ≤ 1 by omega), Int.toNat_natCast, hD _ (show pre.length + 1 ≤ (i + j) / 2 by omega) (by omega), Ym, hq, Option.bind_some, hlt, BR (show (i + j) / 2 < 9223372036854775807 by omega)]
   cases lt (v.getD ((i + j) / 2 - (pre.length + 1)) default) x <;> rfl)
  (fun i => by unfold Rz; dsimp only; rw [if_neg (by simp)]) (by omega)
 obtain ⟨v1, v2, hv12, hv1⟩ : ∃ v1 v2, v = v1 ++ v2 ∧ v1.length = s - (pre.length + 1) := ⟨v.take (s - (pre.length + 1)), v.drop (s - (pre.length + 1)), (List.take_append_drop _ _).symm, by simp; omega⟩
 have hvl : v.length = v1.length + v2.length := by rw [hv12]; simp
 have f1 : ∀ y ∈ v1, lt y x = true := fun y hy => by
  obtain ⟨i, hi, rfl⟩ := List.getElem_of_mem hy
  have := s4 (pre.length + 1 + i) (by omega) (by omega)
  simp only [Bool.not_eq_false'] at this
  rw [show pre.length + 1 + i - (pre.length + 1) = i by omega, CR (by omega)] at this
  have e2 : v[i]'(by omega) = v1[i] := by simp only [hv12]; rw [List.getElem_append_left hi]
  rwa [e2] at this
 have f2 : ∀ y ∈ v2, lt y x = false := fun y hy => by
  obtain ⟨i, hi, rfl⟩ := List.getElem_of_mem hy
  have := s5 (s + i) (by omega) (by omega)
  simp only [Bool.not_eq_true'] at this
  rw [CR (by omega)] at this
  have e2 : v[s + i - (pre.length + 1)]'(by omega) = v2[i] := by
   simp only [hv12]
   rw [List.getElem_append_right (by omega)]
   congr 1; omega
  rwa [e2] at this
 refine ⟨v1 ++ x :: v2, ?_, ?_, ?_⟩
 ·have lp := bQ (v2 ++ suf) s (by omega) x v1 pre (by omega)
  have e3 : pre ++ x :: (v1 ++ (v2 ++ suf)) = pre ++ (x :: (v ++ suf)) := by rw [hv12]; simp
  rw [e3] at lp
  have w1 : IntKind.i64.wrap (((pre.length + 1 : Nat) : Int) - (pre.length : Int)) = 1 := by rw [AX (by omega) (by omega)]; omega
  unfold Cj
  rw [w1, if_pos (by decide), s3, Option.bind_some, lp, Option.bind_some]
  have e4 : ((pre ++ (v1 ++ x :: (v2 ++ suf))).length == (pre ++ (x :: (v ++ suf))).length) = true := by simp; omega
  rw [e4, AN]; simp
 ·rw [hv12] at hv
  have hv' := List.pairwise_append.1 hv
  refine QU hv'.1 (List.pairwise_cons.2 ⟨fun y hy => f2 y hy, hv'.2.1⟩) fun a ha b hb => ?_
  rcases List.mem_cons.1 hb with rfl | hb
  ·exact O.asym _ _ (f1 a ha)
  ·exact hv'.2.2 a ha b hb
 ·have := (GF.swap O (u := [x]) (v := v1) (fun a ha y hy => by rw [List.mem_singleton.1 ha]; exact f1 y hy)).app (GF.refl v2)
  rw [hv12]
  simpa using this
theorem cO (hc : Jl cmp lt) (O : Xo lt) (k : Nat) (pre u : List α) (y : α) (suf : List α) (hu : Ig lt u) (hu2 : u.length ≠ 1) (hl : (pre ++ (u ++ (y :: suf))).length ≤ 1099511627776) :
  ∃ w, Cj cmp (k + 1) (pre ++ (u ++ (y :: suf))) (pre.length : Int) ((pre.length + u.length : Nat) : Int) ((pre.length + u.length + 1 : Nat) : Int) = some (pre ++ (w ++ suf)) ∧ Ig lt w ∧ GF lt (u ++ [y]) w := by
 have hlen : (pre ++ (u ++ (y :: suf))).length = pre.length + (u.length + (suf.length + 1)) := by simp
 have hl' : pre.length + (u.length + (suf.length + 1)) ≤ 1099511627776 := by rw [← hlen]; exact hl
 have hD : ∀ h, pre.length ≤ h → h < pre.length + u.length → (pre ++ (u ++ (y :: suf))).getD h default = u.getD (h - pre.length) default := fun h h1 h2 => by
  have := bc pre u (y :: suf) (t := h - pre.length) (by omega)
  rw [← this]; congr 1; omega
 have hY : (pre ++ (u ++ (y :: suf))).getD (pre.length + u.length) default = y := by
  have := Ym (pre ++ u) y suf
  simpa using this
 obtain ⟨s, s1, s2, s3, s4, s5⟩ := lA (step := Ry cmp (pre ++ (u ++ (y :: suf))) ((pre.length + u.length : Nat) : Int)) (fun h => lt y (u.getD (h - pre.length) default)) pre.length (pre.length + u.length)
  (fun c d h1 h2 h3 hp => by
   cases hq : lt y (u.getD (d - pre.length) default) with
   | true => rfl
   | false => exact absurd (O.trans _ _ _ (Kc O hu (i := c - pre.length) (j := d - pre.length) (by omega) (by omega)) hq) (by rw [hp]; simp))
  (fun i j h1 h2 h3 => by
   have hh := ON (i := i) (j := j) (by omega)
   obtain ⟨q, hq, hlt⟩ := hc y (u.getD ((i + j) / 2 - pre.length) default)
   have e0 : decide ((i : Int) < (j : Int)) = true := decide_eq_true (by omega)
   have o1 : BB (((i + j) / 2 : Nat) : Int) (pre ++ (u ++ (y :: suf))).length = true := DL (by omega) (by omega)
   have o2 : BB ((pre.length + u.length : Nat) : Int) (pre ++ (u ++ (y :: suf))).length = true := DL (by omega) (by omega)
   unfold Ry
   simp only [e0, if_true, hh, o1, o2, AN, Mx (show (0 : Int) ≤ 1 by omega), Int.toNat_natCast, hD _ (show pre.length ≤ (i + j) / 2 by omega) (by omega), hY, hq, Option.bind_some, hlt, BR (show (i + j) / 2 < 9223372036854775807 by omega)]
   cases lt y (u.getD ((i + j) / 2 - pre.length) default) <;> rfl)
  (fun i => by unfold Ry; dsimp only; rw [if_neg (by simp)]) (by omega)
 obtain ⟨u1, u2, hu12, hu1⟩ : ∃ u1 u2, u = u1 ++ u2 ∧ u1.length = s - pre.length := ⟨u.take (s - pre.length), u.drop (s - pre.length), (List.take_append_drop _ _).symm, by simp; omega⟩
 have hul : u.length = u1.length + u2.length := by rw [hu12]; simp
 have f1 : ∀ x ∈ u1, lt y x = false := fun x hx => by
  obtain ⟨i, hi, rfl⟩ := List.getElem_of_mem hx
  have := s4 (pre.length + i) (by omega) (by omega)
  rw [show pre.length + i - pre.length = i by omega, CR (by omega)] at this
  have e2 : u[i]'(by omega) = u1[i] := by simp only [hu12]; rw [List.getElem_append_left hi]
  rwa [e2] at this
 have f2 : ∀ x ∈ u2, lt y x = true := fun x hx => by
  obtain ⟨i, hi, rfl⟩ := List.getElem_of_mem hx
  have := s5 (s + i) (by omega) (by omega)
  rw [CR (by omega)] at this
  have e2 : u[s + i - pre.length]'(by omega) = u2[i] := by
   simp only [hu12]
   rw [List.getElem_append_right (by omega)]
   congr 1; omega
  rwa [e2] at this
 refine ⟨u1 ++ y :: u2, ?_, ?_, ?_⟩
 ·have lp := mc (pre ++ u1) (by simp; omega) y u2.length u2 suf rfl (by simp; omega)
  have e3 : (pre ++ u1) ++ (u2 ++ y :: suf) = pre ++ (u ++ (y :: suf)) := by rw [hu12]; simp
  have e4 : ((pre ++ u1).length : Int) = (s : Int) := by simp; omega
  have e5 : (pre ++ u1).length + u2.length = pre.length + u.length := by simp; omega
  rw [e3, e4, e5] at lp
  have w1 : IntKind.i64.wrap (((pre.length + u.length : Nat) : Int) - (pre.length : Int)) = (u.length : Int) := by rw [AX (by omega) (by omega)]; omega
  have w2 : IntKind.i64.wrap (((pre.length + u.length + 1 : Nat) : Int) - ((pre.length + u.length : Nat) : Int)) = 1 := by rw [AX (by omega) (by omega)]; omega
  unfold Cj
  rw [w1, w2, if_neg (by simp; omega), if_pos (by decide), s3, Option.bind_some, lp, Option.bind_some]
  have e6 : (((pre ++ u1) ++ (y :: (u2 ++ suf))).length == (pre ++ (u ++ (y :: suf))).length) = true := by simp; omega
  rw [e6, AN]; simp
 ·rw [hu12] at hu
  have hu' := List.pairwise_append.1 hu
  refine QU hu'.1 (List.pairwise_cons.2 ⟨fun x hx => O.asym _ _ (f2 x hx), hu'.2.1⟩) fun a ha b hb => ?_
  rcases List.mem_cons.1 hb with rfl | hb
  ·exact f1 a ha
  ·exact hu'.2.2 a ha b hb
 ·have := (GF.refl (lt := lt) u1).app (GF.swap O (u := u2) (v := [y]) (fun a ha b hb => by rw [List.mem_singleton.1 hb]; exact f2 a ha))
  rw [hu12]
  simpa using this
end
section
variable {α : Type} [Inhabited α] {cmp : α → α → Option Int} {lt : α → α → Bool}
theorem Jf {l : List α} {n i : Nat} (h : i < n) (d : α) : (l.take n).getD i d = l.getD i d := by
 rw [List.getD_eq_getElem?_getD, List.getD_eq_getElem?_getD, List.getElem?_take, if_pos h]
theorem Vi (l : List α) (n i : Nat) (d : α) : (l.drop n).getD i d = l.getD (n + i) d := by
 rw [List.getD_eq_getElem?_getD, List.getD_eq_getElem?_getD, List.getElem?_drop]
theorem ru (O : Xo lt) {u v : List α} (hu : Ig lt u) (hv : Ig lt v) {lo hi t : Nat} {K : Nat} (P : Nat → Bool) (hP : ∀ c, lo ≤ c → c < hi → P c = lt (v.getD (K - 1 - c) default) (u.getD c default))
  (h1 : lo ≤ t) (h2 : t ≤ hi) (hi1 : hi ≤ u.length) (hK : ∀ c, lo ≤ c → c < hi → c + 1 ≤ K ∧ K - 1 - c < v.length) (htK : t ≤ K)
  (hlo : lo = 0 ∨ v.length ≤ K - lo) (hhi : hi = u.length ∨ K ≤ hi) (s4 : ∀ c, lo ≤ c → c < t → P c = false) (s5 : ∀ c, t ≤ c → c < hi → P c = true) :
  (∀ x ∈ u.drop t, ∀ y ∈ v.take (K - t), lt y x = true) ∧ (∀ x ∈ u.take t, ∀ y ∈ v.drop (K - t), lt y x = false) := by
 constructor
 ·intro x hx y hy
  obtain ⟨i, hi', rfl⟩ := List.getElem_of_mem hx
  obtain ⟨j, hj', rfl⟩ := List.getElem_of_mem hy
  rw [← CR hi' default, ← CR hj' default]
  simp only [List.length_drop, List.length_take] at hi' hj'
  rw [Vi, Jf (by omega)]
  rcases Nat.lt_or_ge t hi with q | q
  ·have p := s5 t (Nat.le_refl _) q
   rw [hP t h1 q] at p
   obtain ⟨k1, k2⟩ := hK t h1 q
   cases hq : lt (v.getD j default) (u.getD (t + i) default) with
   | true => rfl
   | false =>
    have a := Kc O hu (i := t) (j := t + i) (by omega) (by omega)
    have b := Kc O hv (i := j) (j := K - 1 - t) (by omega) k2
    have := O.trans _ _ _ (O.trans _ _ _ a hq) b
    rw [this] at p; cases p
  ·obtain rfl : t = hi := by omega
   rcases hhi with e | e
   ·omega
   ·omega
 ·intro x hx y hy
  obtain ⟨i, hi', rfl⟩ := List.getElem_of_mem hx
  obtain ⟨j, hj', rfl⟩ := List.getElem_of_mem hy
  rw [← CR hi' default, ← CR hj' default]
  simp only [List.length_drop, List.length_take] at hi' hj'
  rw [Vi, Jf (by omega)]
  rcases Nat.lt_or_ge lo t with q | q
  ·have p := s4 (t - 1) (by omega) (by omega)
   rw [hP (t - 1) (by omega) (by omega)] at p
   rw [show K - 1 - (t - 1) = K - t by omega] at p
   have a := Kc O hu (i := i) (j := t - 1) (by omega) (by omega)
   have b := Kc O hv (i := K - t) (j := K - t + j) (by omega) (by omega)
   exact O.trans _ _ _ (O.trans _ _ _ a p) b
  ·obtain rfl : t = lo := by omega
   rcases hlo with e | e
   ·omega
   ·omega
theorem Kb {l : List α} (h : Ig lt l) (n : Nat) : Ig lt (l.take n) := List.Pairwise.sublist (List.take_sublist n l) h
theorem Kd {l : List α} (h : Ig lt l) (n : Nat) : Ig lt (l.drop n) := List.Pairwise.sublist (List.drop_sublist n l) h
theorem pk (O : Xo lt) {u v : List α} {t r : Nat} (hu : Ig lt u) (hv : Ig lt v) (h1 : ∀ x ∈ u.drop t, ∀ y ∈ v.take r, lt y x = true) (h2 : ∀ x ∈ u.take t, ∀ y ∈ v.drop r, lt y x = false)
  {w1 w2 : List α} (a1 : Ig lt w1) (b1 : GF lt (u.take t ++ v.take r) w1) (a2 : Ig lt w2) (b2 : GF lt (u.drop t ++ v.drop r) w2) : Ig lt (w1 ++ w2) ∧ GF lt (u ++ v) (w1 ++ w2) := by
 constructor
 ·refine QU a1 a2 fun x hx y hy => ?_
  have hu' := List.pairwise_append.1 (show Ig lt (u.take t ++ u.drop t) by rw [List.take_append_drop]; exact hu)
  have hv' := List.pairwise_append.1 (show Ig lt (v.take r ++ v.drop r) by rw [List.take_append_drop]; exact hv)
  rcases List.mem_append.1 (b1.mem.1 hx) with p | p <;> rcases List.mem_append.1 (b2.mem.1 hy) with q | q
  ·exact hu'.2.2 x p y q
  ·exact h2 x p y q
  ·exact O.asym _ _ (h1 y q x p)
  ·exact hv'.2.2 x p y q
 ·have e : GF lt ((u.take t ++ (u.drop t ++ v.take r)) ++ v.drop r) ((u.take t ++ (v.take r ++ u.drop t)) ++ v.drop r) := ((GF.refl _).app (GF.swap O h1)).app (GF.refl _)
  have e1 : (u.take t ++ (u.drop t ++ v.take r)) ++ v.drop r = u ++ v := by
   rw [← List.append_assoc, List.take_append_drop, List.append_assoc, List.take_append_drop]
  have e2 : (u.take t ++ (v.take r ++ u.drop t)) ++ v.drop r = (u.take t ++ v.take r) ++ (u.drop t ++ v.drop r) := by simp
  rw [e1, e2] at e
  exact e.trans (b1.app b2)
end
noncomputable def uY {α : Type} [Inhabited α] (cmp : α → α → Option Int) (n_ : Nat) (data : List α) (a m b : Int) (s : Int) : Option (List α) :=
 if ((decide (s < m)) && (decide (m < (IntKind.i64.wrap ((IntKind.i64.wrap ((IntKind.i64.wrap ((IntKind.u64.wrap (IntKind.i64.wrap (a + b))).fdiv (2 ^ (min 1 64)))) + m)) - s))))) then
  (aH data s m (IntKind.i64.wrap ((IntKind.i64.wrap ((IntKind.i64.wrap ((IntKind.u64.wrap (IntKind.i64.wrap (a + b))).fdiv (2 ^ (min 1 64)))) + m)) - s))).bind fun y_37 =>
  if ((decide (a < s)) && (decide (s < (IntKind.i64.wrap ((IntKind.u64.wrap (IntKind.i64.wrap (a + b))).fdiv (2 ^ (min 1 64))))))) then
   (Cj cmp n_ y_37 a s (IntKind.i64.wrap ((IntKind.u64.wrap (IntKind.i64.wrap (a + b))).fdiv (2 ^ (min 1 64))))).bind fun y_39 =>
   if ((decide ((IntKind.i64.wrap ((IntKind.u64.wrap (IntKind.i64.wrap (a + b))).fdiv (2 ^ (min 1 64)))) < (IntKind.i64.wrap ((IntKind.i64.wrap ((IntKind.i64.wrap ((IntKind.u64.wrap (IntKind.i64.wrap (a + b))).fdiv (2 ^ (min 1 64)))) + m)) - s)))) && (decide ((IntKind.i64.wrap ((IntKind.i64.wrap ((IntKind.i64.wrap ((IntKind.u64.wrap (IntKind.i64.wrap (a + b))).fdiv (2 ^ (min 1 64)))) + m)) - s)) < b))) then
    (Cj cmp n_ y_39 (IntKind.i64.wrap ((IntKind.u64.wrap (IntKind.i64.wrap (a + b))).fdiv (2 ^ (min 1 64)))) (IntKind.i64.wrap ((IntKind.i64.wrap ((IntKind.i64.wrap ((IntKind.u64.wrap (IntKind.i64.wrap (a + b))).fdiv (2 ^ (min 1 64)))) + m)) - s)) b).bind fun y_41 =>
    ck (y_41.length == data.length) <|
    some y_41
   else
    ck (y_39.length == data.length) <|
    some y_39
  else
   if ((decide ((IntKind.i64.wrap ((IntKind.u64.wrap (IntKind.i64.wrap (a + b))).fdiv (2 ^ (min 1 64)))) < (IntKind.i64.wrap ((IntKind.i64.wrap ((IntKind.i64.wrap ((IntKind.u64.wrap (IntKind.i64.wrap (a + b))).fdiv (2 ^ (min 1 64)))) + m)) - s)))) && (decide ((IntKind.i64.wrap ((IntKind.i64.wrap ((IntKind.i64.wrap ((IntKind.u64.wrap (IntKind.i64.wrap (a + b))).fdiv (2 ^ (min 1 64)))) + m)) - s)) < b))) then
    (Cj cmp n_ y_37 (IntKind.i64.wrap ((IntKind.u64.wrap (IntKind.i64.wrap (a + b))).fdiv (2 ^ (min 1 64)))) (IntKind.i64.wrap ((IntKind.i64.wrap ((IntKind.i64.wrap ((IntKind.u64.wrap (IntKind.i64.wrap (a + b))).fdiv (2 ^ (min 1 64)))) + m)) - s)) b).bind fun y_45 =>
    ck (y_45.length == data.length) <|
    some y_45
   else
    ck (y_37.length == data.length) <|
    some y_37
 else
  if ((decide (a < s)) && (decide (s < (IntKind.i64.wrap ((IntKind.u64.wrap (IntKind.i64.wrap (a + b))).fdiv (2 ^ (min 1 64))))))) then
   (Cj cmp n_ data a s (IntKind.i64.wrap ((IntKind.u64.wrap (IntKind.i64.wrap (a + b))).fdiv (2 ^ (min 1 64))))).bind fun y_49 =>
   if ((decide ((IntKind.i64.wrap ((IntKind.u64.wrap (IntKind.i64.wrap (a + b))).fdiv (2 ^ (min 1 64)))) < (IntKind.i64.wrap ((IntKind.i64.wrap ((IntKind.i64.wrap ((IntKind.u64.wrap (IntKind.i64.wrap (a + b))).fdiv (2 ^ (min 1 64)))) + m)) - s)))) && (decide ((IntKind.i64.wrap ((IntKind.i64.wrap ((IntKind.i64.wrap ((IntKind.u64.wrap (IntKind.i64.wrap (a + b))).fdiv (2 ^ (min 1 64)))) + m)) - s)) < b))) then
    (Cj cmp n_ y_49 (IntKind.i64.wrap ((IntKind.u64.wrap (IntKind.i64.wrap (a + b))).fdiv (2 ^ (min 1 64)))) (IntKind.i64.wrap ((IntKind.i64.wrap ((IntKind.i64.wrap ((IntKind.u64.wrap (IntKind.i64.wrap (a + b))).fdiv (2 ^ (min 1 64)))) + m)) - s)) b).bind fun y_51 =>
    ck (y_51.length == data.length) <|
    some y_51
   else
    ck (y_49.length == data.length) <|
    some y_49
  else
   if ((decide ((IntKind.i64.wrap ((IntKind.u64.wrap (IntKind.i64.wrap (a + b))).fdiv (2 ^ (min 1 64)))) < (IntKind.i64.wrap ((IntKind.i64.wrap ((IntKind.i64.wrap ((IntKind.u64.wrap (IntKind.i64.wrap (a + b))).fdiv (2 ^ (min 1 64)))) + m)) - s)))) && (decide ((IntKind.i64.wrap ((IntKind.i64.wrap ((IntKind.i64.wrap ((IntKind.u64.wrap (IntKind.i64.wrap (a + b))).fdiv (2 ^ (min 1 64)))) + m)) - s)) < b))) then
    (Cj cmp n_ data (IntKind.i64.wrap ((IntKind.u64.wrap (IntKind.i64.wrap (a + b))).fdiv (2 ^ (min 1 64)))) (IntKind.i64.wrap ((IntKind.i64.wrap ((IntKind.i64.wrap ((IntKind.u64.wrap (IntKind.i64.wrap (a + b))).fdiv (2 ^ (min 1 64)))) + m)) - s)) b).bind fun y_55 =>
    ck (y_55.length == data.length) <|
    some y_55
   else
    some data
theorem lr {α : Type} [Inhabited α] (cmp : α → α → Option Int) (n_ : Nat) (data : List α) (a m b : Int) (h1 : (IntKind.i64.wrap (m - a) == 1) = false) (h2 : (IntKind.i64.wrap (b - m) == 1) = false) :
  Cj cmp (n_ + 1) data a m b = if decide ((IntKind.i64.wrap ((IntKind.u64.wrap (IntKind.i64.wrap (a + b))).fdiv (2 ^ (min 1 64)))) < m) = true then (AJ (Lc cmp data a m b (IntKind.i64.wrap ((IntKind.u64.wrap (IntKind.i64.wrap (a + b))).fdiv (2 ^ (min 1 64)))) (IntKind.i64.wrap ((IntKind.i64.wrap ((IntKind.u64.wrap (IntKind.i64.wrap (a + b))).fdiv (2 ^ (min 1 64)))) + m)) (IntKind.i64.wrap ((IntKind.i64.wrap ((IntKind.i64.wrap ((IntKind.u64.wrap (IntKind.i64.wrap (a + b))).fdiv (2 ^ (min 1 64)))) + m)) - 1))) ((IntKind.i64.wrap ((IntKind.i64.wrap ((IntKind.i64.wrap ((IntKind.u64.wrap (IntKind.i64.wrap (a + b))).fdiv (2 ^ (min 1 64)))) + m)) - b)), (IntKind.i64.wrap ((IntKind.u64.wrap (IntKind.i64.wrap (a + b))).fdiv (2 ^ (min 1 64)))))).bind (uY cmp n_ data a m b) else (AJ (XI cmp data a m b (IntKind.i64.wrap ((IntKind.u64.wrap (IntKind.i64.wrap (a + b))).fdiv (2 ^ (min 1 64)))) (IntKind.i64.wrap ((IntKind.i64.wrap ((IntKind.u64.wrap (IntKind.i64.wrap (a + b))).fdiv (2 ^ (min 1 64)))) + m)) (IntKind.i64.wrap ((IntKind.i64.wrap ((IntKind.i64.wrap ((IntKind.u64.wrap (IntKind.i64.wrap (a + b))).fdiv (2 ^ (min 1 64)))) + m)) - 1))) (a, m)).bind (uY cmp n_ data a m b) := by
 unfold Cj
 rw [h1, h2, if_neg (by simp), if_neg (by simp), Mx (show (0 : Int) ≤ 1 by omega), AN]
 rfl
section
variable {α : Type} [Inhabited α] {cmp : α → α → Option Int} {lt : α → α → Bool}
theorem lh {k A U V K t : Nat} {D D1 D2 D3 : List α} (hK : K = (U + V) / 2) (hb : A + U + V ≤ 1099511627776) (htK : t ≤ K) (htU : t ≤ U)
  (r1 : t < U ∧ t < K → aH D ((A + t : Nat) : Int) ((A + U : Nat) : Int) ((A + U + (K - t) : Nat) : Int) = some D1) (r2 : ¬(t < U ∧ t < K) → D = D1)
  (p1 : 0 < t ∧ t < K → Cj cmp k D1 (A : Int) ((A + t : Nat) : Int) ((A + K : Nat) : Int) = some D2) (p2 : ¬(0 < t ∧ t < K) → D1 = D2)
  (q1 : t < U ∧ K - t < V → Cj cmp k D2 ((A + K : Nat) : Int) ((A + U + (K - t) : Nat) : Int) ((A + U + V : Nat) : Int) = some D3) (q2 : ¬(t < U ∧ K - t < V) → D2 = D3)
  (hl : D3.length = D.length) : uY cmp k D (A : Int) ((A + U : Nat) : Int) ((A + U + V : Nat) : Int) ((A + t : Nat) : Int) = some D3 := by
 have hm : IntKind.i64.wrap ((IntKind.u64.wrap (IntKind.i64.wrap ((A : Int) + ((A + U + V : Nat) : Int)))).fdiv (2 ^ (min 1 64))) = ((A + K : Nat) : Int) := by
  rw [ON (by omega)]; congr 1; omega
 have hn : IntKind.i64.wrap (((A + K : Nat) : Int) + ((A + U : Nat) : Int)) = ((A + K + (A + U) : Nat) : Int) := by rw [AX (by omega) (by omega)]; omega
 have he : IntKind.i64.wrap (((A + K + (A + U) : Nat) : Int) - ((A + t : Nat) : Int)) = ((A + U + (K - t) : Nat) : Int) := by rw [AX (by omega) (by omega)]; omega
 have hlen : (D3.length == D.length) = true := by rw [hl]; simp
 have b1 : decide (((A + t : Nat) : Int) < ((A + U : Nat) : Int)) = decide (t < U) := by rw [Bool.eq_iff_iff]; simp only [decide_eq_true_eq]; omega
 have b2 : decide (((A + U : Nat) : Int) < ((A + U + (K - t) : Nat) : Int)) = decide (t < K) := by rw [Bool.eq_iff_iff]; simp only [decide_eq_true_eq]; omega
 have b3 : decide ((A : Int) < ((A + t : Nat) : Int)) = decide (0 < t) := by rw [Bool.eq_iff_iff]; simp only [decide_eq_true_eq]; omega
 have b4 : decide (((A + t : Nat) : Int) < ((A + K : Nat) : Int)) = decide (t < K) := by rw [Bool.eq_iff_iff]; simp only [decide_eq_true_eq]; omega
 have b5 : decide (((A + K : Nat) : Int) < ((A + U + (K - t) : Nat) : Int)) = decide (t < U) := by rw [Bool.eq_iff_iff]; simp only [decide_eq_true_eq]; omega
 have b6 : decide (((A + U + (K - t) : Nat) : Int) < ((A + U + V : Nat) : Int)) = decide (K - t < V) := by rw [Bool.eq_iff_iff]; simp only [decide_eq_true_eq]; omega
 unfold uY
 simp only [hm, hn, he, b1, b2, b3, b4, b5, b6]
 have g1 : (decide (t < U) && decide (t < K)) = decide (t < U ∧ t < K) := by rw [Bool.eq_iff_iff]; simp
 have g2 : (decide (0 < t) && decide (t < K)) = decide (0 < t ∧ t < K) := by rw [Bool.eq_iff_iff]; simp
 have g3 : (decide (t < U) && decide (K - t < V)) = decide (t < U ∧ K - t < V) := by rw [Bool.eq_iff_iff]; simp
 simp only [g1, g2, g3]
 by_cases c1 : t < U ∧ t < K
 ·have r1 := r1 c1
  by_cases c2 : 0 < t ∧ t < K
  ·have p1 := p1 c2
   by_cases c3 : t < U ∧ K - t < V
   ·have q1 := q1 c3
    simp only [c1, c2, c3, and_self, decide_true, if_true, r1, p1, q1, Option.bind_some, hlen, AN]
   ·have q2 := q2 c3
    subst q2
    simp only [decide_eq_true c1, decide_eq_true c2, decide_eq_false c3, if_true, Bool.false_eq_true, if_false, r1, p1, Option.bind_some, hlen, AN]
  ·have p2 := p2 c2
   subst p2
   by_cases c3 : t < U ∧ K - t < V
   ·have q1 := q1 c3
    simp only [decide_eq_true c1, decide_eq_false c2, decide_eq_true c3, if_true, Bool.false_eq_true, if_false, r1, q1, Option.bind_some, hlen, AN]
   ·have q2 := q2 c3
    subst q2
    simp only [decide_eq_true c1, decide_eq_false c2, decide_eq_false c3, if_true, Bool.false_eq_true, if_false, r1, Option.bind_some, hlen, AN]
 ·have r2 := r2 c1
  subst r2
  by_cases c2 : 0 < t ∧ t < K
  ·have p1 := p1 c2
   by_cases c3 : t < U ∧ K - t < V
   ·have q1 := q1 c3
    simp only [decide_eq_false c1, decide_eq_true c2, decide_eq_true c3, if_true, Bool.false_eq_true, if_false, p1, q1, Option.bind_some, hlen, AN]
   ·have q2 := q2 c3
    subst q2
    simp only [decide_eq_false c1, decide_eq_true c2, decide_eq_false c3, if_true, Bool.false_eq_true, if_false, p1, Option.bind_some, hlen, AN]
  ·have p2 := p2 c2
   subst p2
   by_cases c3 : t < U ∧ K - t < V
   ·have q1 := q1 c3
    simp only [decide_eq_false c1, decide_eq_false c2, decide_eq_true c3, if_true, Bool.false_eq_true, if_false, q1, Option.bind_some, hlen, AN]
   ·have q2 := q2 c3
    subst q2
    simp only [decide_eq_false c1, decide_eq_false c2, decide_eq_false c3, if_true, Bool.false_eq_true, if_false]
theorem VD (hc : Jl cmp lt) (O : Xo lt) (pre u v suf : List α) (hu : Ig lt u) (hv : Ig lt v) {K lo hi : Nat} (hl : (pre ++ (u ++ (v ++ suf))).length ≤ 1099511627776)
  {step : Int × Int → Option ((Int × Int) ⊕ Int)} (hstep : ∀ q : Int × Int, step q = Lc cmp (pre ++ (u ++ (v ++ suf))) 0 0 0 0 0 ((pre.length + K + (pre.length + u.length) - 1 : Nat) : Int) q)
  (h1 : lo ≤ hi) (hi1 : hi ≤ u.length) (hK : ∀ c, lo ≤ c → c < hi → c + 1 ≤ K ∧ K - 1 - c < v.length) :
  ∃ t, lo ≤ t ∧ t ≤ hi ∧ AJ step (((pre.length + lo : Nat) : Int), ((pre.length + hi : Nat) : Int)) = some ((pre.length + t : Nat) : Int) ∧
   (∀ c, lo ≤ c → c < t → lt (v.getD (K - 1 - c) default) (u.getD c default) = false) ∧ (∀ c, t ≤ c → c < hi → lt (v.getD (K - 1 - c) default) (u.getD c default) = true) := by
 have hlen : (pre ++ (u ++ (v ++ suf))).length = pre.length + (u.length + (v.length + suf.length)) := by simp
 obtain ⟨s, s1, s2, s3, s4, s5⟩ := lA (step := step) (fun h => lt (v.getD (K - 1 - (h - pre.length)) default) (u.getD (h - pre.length) default)) (pre.length + lo) (pre.length + hi)
  (fun c d h1 h2 h3 hp => by
   cases hq : lt (v.getD (K - 1 - (d - pre.length)) default) (u.getD (d - pre.length) default) with
   | true => rfl
   | false =>
    obtain ⟨k1, k2⟩ := hK (c - pre.length) (by omega) (by omega)
    have a := Kc O hu (i := c - pre.length) (j := d - pre.length) (by omega) (by omega)
    have b := Kc O hv (i := K - 1 - (d - pre.length)) (j := K - 1 - (c - pre.length)) (by omega) k2
    have := O.trans _ _ _ (O.trans _ _ _ a hq) b
    rw [this] at hp; cases hp)
  (fun i j h2 h3 h4 => by
   have hh := ON (i := i) (j := j) (by omega)
   obtain ⟨k1, k2⟩ := hK ((i + j) / 2 - pre.length) (by omega) (by omega)
   obtain ⟨q, hq, hlt⟩ := hc (v.getD (K - 1 - ((i + j) / 2 - pre.length)) default) (u.getD ((i + j) / 2 - pre.length) default)
   have e0 : decide ((i : Int) < (j : Int)) = true := decide_eq_true (by omega)
   have wp : IntKind.i64.wrap (((pre.length + K + (pre.length + u.length) - 1 : Nat) : Int) - (((i + j) / 2 : Nat) : Int)) = ((pre.length + (u.length + (K - 1 - ((i + j) / 2 - pre.length))) : Nat) : Int) := by rw [AX (by omega) (by omega)]; omega
   have o1 : BB (((i + j) / 2 : Nat) : Int) (pre ++ (u ++ (v ++ suf))).length = true := DL (by omega) (by omega)
   have o2 : BB ((pre.length + (u.length + (K - 1 - ((i + j) / 2 - pre.length))) : Nat) : Int) (pre ++ (u ++ (v ++ suf))).length = true := DL (by omega) (by omega)
   have gu : (pre ++ (u ++ (v ++ suf))).getD ((i + j) / 2) default = u.getD ((i + j) / 2 - pre.length) default := by
    have := bc pre u (v ++ suf) (t := (i + j) / 2 - pre.length) (by omega)
    rw [← this]; congr 1; omega
   have gv : (pre ++ (u ++ (v ++ suf))).getD (pre.length + (u.length + (K - 1 - ((i + j) / 2 - pre.length)))) default = v.getD (K - 1 - ((i + j) / 2 - pre.length)) default := by
    have := bc (pre ++ u) v suf (t := K - 1 - ((i + j) / 2 - pre.length)) k2
    rw [← this, List.append_assoc]; congr 1; simp; omega
   rw [hstep]
   unfold Lc
   simp only [e0, if_true, hh, wp, o1, o2, AN, Mx (show (0 : Int) ≤ 1 by omega), Int.toNat_natCast, gu, gv, hq, Option.bind_some, hlt, BR (show (i + j) / 2 < 9223372036854775807 by omega)]
   cases lt (v.getD (K - 1 - ((i + j) / 2 - pre.length)) default) (u.getD ((i + j) / 2 - pre.length) default) <;> rfl)
  (fun i => by rw [hstep]; unfold Lc; dsimp only; rw [if_neg (by simp)]) (by omega)
 refine ⟨s - pre.length, by omega, by omega, ?_, fun c a b => ?_, fun c a b => ?_⟩
 ·rw [s3]; congr 1; omega
 ·have := s4 (pre.length + c) (by omega) (by omega)
  rw [show pre.length + c - pre.length = c by omega] at this; exact this
 ·have := s5 (pre.length + c) (by omega) (by omega)
  rw [show pre.length + c - pre.length = c by omega] at this; exact this
theorem pQ {l : List α} (h : l.length ≤ 1) : Ig lt l := by
 match l, h with
 | [], _ => exact List.Pairwise.nil
 | [x], _ => exact List.pairwise_singleton _ _
theorem fc (hc : Jl cmp lt) (O : Xo lt) : ∀ (k : Nat) (pre u v suf : List α), 0 < u.length → 0 < v.length → u.length + v.length ≤ 2 ^ k → Ig lt u → Ig lt v → (pre ++ (u ++ (v ++ suf))).length ≤ 1099511627776 →
  ∃ w, Cj cmp k (pre ++ (u ++ (v ++ suf))) (pre.length : Int) ((pre.length + u.length : Nat) : Int) ((pre.length + u.length + v.length : Nat) : Int) = some (pre ++ (w ++ suf)) ∧ Ig lt w ∧ GF lt (u ++ v) w := by
 intro k
 induction k with
 | zero => intro pre u v suf h1 h2 h3; simp at h3; omega
 | succ k ih =>
  intro pre u v suf h1 h2 h3 hu hv hl
  have hlen : (pre ++ (u ++ (v ++ suf))).length = pre.length + (u.length + (v.length + suf.length)) := by simp
  by_cases c1 : u.length = 1
  ·obtain ⟨x, rfl⟩ : ∃ x, u = [x] := List.length_eq_one_iff.1 c1
   exact fZ hc O k pre x v suf hv hl
  by_cases c2 : v.length = 1
  ·obtain ⟨y, rfl⟩ : ∃ y, v = [y] := List.length_eq_one_iff.1 c2
   exact cO hc O k pre u y suf hu c1 hl
  have hpow : 2 ^ (k + 1) = 2 * 2 ^ k := by rw [Nat.pow_succ]; omega
  obtain ⟨K, hK⟩ : ∃ K, K = (u.length + v.length) / 2 := ⟨_, rfl⟩
  have w1 : (IntKind.i64.wrap (((pre.length + u.length : Nat) : Int) - (pre.length : Int)) == 1) = false := by
   rw [AX (by omega) (by omega)]; exact beq_eq_false_iff_ne.2 (by omega)
  have w2 : (IntKind.i64.wrap (((pre.length + u.length + v.length : Nat) : Int) - ((pre.length + u.length : Nat) : Int)) == 1) = false := by
   rw [AX (by omega) (by omega)]; exact beq_eq_false_iff_ne.2 (by omega)
  have fin : ∀ lo hi t : Nat, lo ≤ t → t ≤ hi → hi ≤ u.length → (∀ c, lo ≤ c → c < hi → c + 1 ≤ K ∧ K - 1 - c < v.length) → t ≤ K → (lo = 0 ∨ v.length ≤ K - lo) → (hi = u.length ∨ K ≤ hi) → K - t ≤ v.length →
    (∀ c, lo ≤ c → c < t → lt (v.getD (K - 1 - c) default) (u.getD c default) = false) → (∀ c, t ≤ c → c < hi → lt (v.getD (K - 1 - c) default) (u.getD c default) = true) →
    ∃ w, uY cmp k (pre ++ (u ++ (v ++ suf))) (pre.length : Int) ((pre.length + u.length : Nat) : Int) ((pre.length + u.length + v.length : Nat) : Int) ((pre.length + t : Nat) : Int) = some (pre ++ (w ++ suf)) ∧ Ig lt w ∧ GF lt (u ++ v) w := by
   intro lo hi t a1 a2 a3 a4 a5 a6 a7 a8 a9 a10
   obtain ⟨f1, f2⟩ := ru O hu hv (fun c => lt (v.getD (K - 1 - c) default) (u.getD c default)) (fun c _ _ => rfl) a1 a2 a3 a4 a5 a6 a7 a9 a10
   have lu1 : (u.take t).length = t := by simp; omega
   have lu2 : (u.drop t).length = u.length - t := by simp
   have lv1 : (v.take (K - t)).length = K - t := by simp; omega
   have lv2 : (v.drop (K - t)).length = v.length - (K - t) := by simp
   obtain ⟨W1, e1, b1, b2, b3⟩ : ∃ W1, W1.length = K ∧ (0 < t ∧ t < K → Cj cmp k (pre ++ (u.take t ++ (v.take (K - t) ++ (u.drop t ++ (v.drop (K - t) ++ suf))))) (pre.length : Int) ((pre.length + t : Nat) : Int) ((pre.length + K : Nat) : Int) = some (pre ++ (W1 ++ (u.drop t ++ (v.drop (K - t) ++ suf))))) ∧
     Ig lt W1 ∧ (GF lt (u.take t ++ v.take (K - t)) W1 ∧ (¬(0 < t ∧ t < K) → u.take t ++ v.take (K - t) = W1)) := by
    by_cases q : 0 < t ∧ t < K
    ·obtain ⟨w, k1, k2, k3⟩ := ih pre (u.take t) (v.take (K - t)) (u.drop t ++ (v.drop (K - t) ++ suf)) (by omega) (by omega) (by omega) (Kb hu _) (Kb hv _) (by simp; omega)
     rw [lu1, lv1, show pre.length + t + (K - t) = pre.length + K by omega] at k1
     exact ⟨w, by rw [k3.len]; simp; omega, fun _ => k1, k2, k3, fun c => absurd q c⟩
    ·refine ⟨u.take t ++ v.take (K - t), by simp; omega, fun c => absurd c q, ?_, GF.refl _, fun _ => rfl⟩
     rcases Nat.eq_zero_or_pos t with z | z
     ·have : u.take t = [] := List.length_eq_zero_iff.1 (by omega)
      rw [this]; exact Kb hv _
     ·have : v.take (K - t) = [] := List.length_eq_zero_iff.1 (by omega)
      rw [this, List.append_nil]; exact Kb hu _
   obtain ⟨b3, b4⟩ := b3
   have ld2 : (pre ++ W1).length = pre.length + K := by simp; omega
   obtain ⟨W2, e2, d1, d2, d3, d4⟩ : ∃ W2, W2.length = u.length + v.length - K ∧ (t < u.length ∧ K - t < v.length → Cj cmp k (pre ++ (W1 ++ (u.drop t ++ (v.drop (K - t) ++ suf)))) ((pre.length + K : Nat) : Int) ((pre.length + u.length + (K - t) : Nat) : Int) ((pre.length + u.length + v.length : Nat) : Int) = some (pre ++ (W1 ++ (W2 ++ suf)))) ∧
     Ig lt W2 ∧ GF lt (u.drop t ++ v.drop (K - t)) W2 ∧ (¬(t < u.length ∧ K - t < v.length) → u.drop t ++ v.drop (K - t) = W2) := by
    by_cases q : t < u.length ∧ K - t < v.length
    ·obtain ⟨w, k1, k2, k3⟩ := ih (pre ++ W1) (u.drop t) (v.drop (K - t)) suf (by omega) (by omega) (by omega) (Kd hu _) (Kd hv _) (by simp; omega)
     rw [ld2, lu2, lv2, show pre.length + K + (u.length - t) = pre.length + u.length + (K - t) by omega, show pre.length + u.length + (K - t) + (v.length - (K - t)) = pre.length + u.length + v.length by omega] at k1
     exact ⟨w, by rw [k3.len]; simp; omega, fun _ => by simpa using k1, k2, k3, fun c => absurd q c⟩
    ·refine ⟨u.drop t ++ v.drop (K - t), by simp; omega, fun c => absurd c q, ?_, GF.refl _, fun _ => rfl⟩
     rcases Nat.lt_or_ge t u.length with z | z
     ·have : v.drop (K - t) = [] := List.length_eq_zero_iff.1 (by omega)
      rw [this, List.append_nil]; exact Kd hu _
     ·have : u.drop t = [] := List.length_eq_zero_iff.1 (by omega)
      rw [this]; exact Kd hv _
   obtain ⟨m1, m2⟩ := pk O hu hv f1 f2 b2 b3 d2 d3
   refine ⟨W1 ++ W2, ?_, m1, m2⟩
   have hD : pre ++ (u ++ (v ++ suf)) = (pre ++ u.take t) ++ (u.drop t ++ (v.take (K - t) ++ (v.drop (K - t) ++ suf))) := by
    have : (pre ++ u.take t) ++ (u.drop t ++ (v.take (K - t) ++ (v.drop (K - t) ++ suf))) = pre ++ ((u.take t ++ u.drop t) ++ ((v.take (K - t) ++ v.drop (K - t)) ++ suf)) := by simp only [List.append_assoc]
    rw [this, List.take_append_drop, List.take_append_drop]
   have := lh (cmp := cmp) (k := k) (A := pre.length) (U := u.length) (V := v.length) (K := K) (t := t) (D := pre ++ (u ++ (v ++ suf))) (D1 := pre ++ (u.take t ++ (v.take (K - t) ++ (u.drop t ++ (v.drop (K - t) ++ suf)))))
    (D2 := pre ++ (W1 ++ (u.drop t ++ (v.drop (K - t) ++ suf)))) (D3 := pre ++ (W1 ++ (W2 ++ suf))) hK (by omega) a5 (by omega)
    (fun q => by
     have r := pg (pre ++ u.take t) (u.drop t) (v.take (K - t)) (v.drop (K - t) ++ suf) (by omega) (by omega) (by rw [← hD]; exact hl)
     have l1 : (pre ++ u.take t).length = pre.length + t := by simp; omega
     rw [← hD, l1, lu2, lv1, show pre.length + t + (u.length - t) = pre.length + u.length by omega] at r
     rw [r]; simp)
    (fun q => by
     rw [hD]
     rcases Nat.lt_or_ge t u.length with z | z
     ·have : v.take (K - t) = [] := List.length_eq_zero_iff.1 (by omega)
      rw [this]; simp
     ·have : u.drop t = [] := List.length_eq_zero_iff.1 (by omega)
      rw [this]; simp)
    b1 (fun q => by rw [← b4 q]; simp) d1 (fun q => by rw [← d4 q]; simp) (by simp; omega)
   rw [this]; simp
  rw [lr cmp k _ _ _ _ w1 w2]
  have hm : IntKind.i64.wrap ((IntKind.u64.wrap (IntKind.i64.wrap ((pre.length : Int) + ((pre.length + u.length + v.length : Nat) : Int)))).fdiv (2 ^ (min 1 64))) = ((pre.length + K : Nat) : Int) := by
   rw [ON (by omega)]; congr 1; omega
  have hn : IntKind.i64.wrap (((pre.length + K : Nat) : Int) + ((pre.length + u.length : Nat) : Int)) = ((pre.length + K + (pre.length + u.length) : Nat) : Int) := by rw [AX (by omega) (by omega)]; omega
  have hp : IntKind.i64.wrap (((pre.length + K + (pre.length + u.length) : Nat) : Int) - 1) = ((pre.length + K + (pre.length + u.length) - 1 : Nat) : Int) := by rw [AX (by omega) (by omega)]; omega
  simp only [hm, hn, hp]
  by_cases c3 : K < u.length
  ·rw [if_pos (decide_eq_true (by omega))]
   have hs : IntKind.i64.wrap (((pre.length + K + (pre.length + u.length) : Nat) : Int) - ((pre.length + u.length + v.length : Nat) : Int)) = ((pre.length + (K - v.length) : Nat) : Int) := by rw [AX (by omega) (by omega)]; omega
   rw [hs]
   obtain ⟨t, t1, t2, t3, t4, t5⟩ := VD hc O pre u v suf hu hv (K := K) (lo := K - v.length) (hi := K) hl (step := Lc cmp (pre ++ (u ++ (v ++ suf))) (pre.length : Int) ((pre.length + u.length : Nat) : Int) ((pre.length + u.length + v.length : Nat) : Int) ((pre.length + K : Nat) : Int) ((pre.length + K + (pre.length + u.length) : Nat) : Int) ((pre.length + K + (pre.length + u.length) - 1 : Nat) : Int)) (fun q => rfl) (by omega) (by omega) (fun c x y => by omega)
   rw [t3, Option.bind_some]
   exact fin (K - v.length) K t t1 t2 (by omega) (fun c x y => by omega) t2 (.inr (by omega)) (.inr (Nat.le_refl _)) (by omega) t4 t5
  ·rw [if_neg (by simp; omega)]
   obtain ⟨t, t1, t2, t3, t4, t5⟩ := VD hc O pre u v suf hu hv (K := K) (lo := 0) (hi := u.length) hl (step := XI cmp (pre ++ (u ++ (v ++ suf))) (pre.length : Int) ((pre.length + u.length : Nat) : Int) ((pre.length + u.length + v.length : Nat) : Int) ((pre.length + K : Nat) : Int) ((pre.length + K + (pre.length + u.length) : Nat) : Int) ((pre.length + K + (pre.length + u.length) - 1 : Nat) : Int)) (fun q => rfl) (by omega) (by omega) (fun c x y => by omega)
   rw [Nat.add_zero] at t3
   rw [t3, Option.bind_some]
   exact fin 0 u.length t t1 t2 (Nat.le_refl _) (fun c x y => by omega) (by omega) (.inl rfl) (.inl rfl) (by omega) t4 t5
end
section
variable {α : Type} [Inhabited α] {cmp : α → α → Option Int} {lt : α → α → Bool}
theorem YV {x : Nat} (h : x ≤ 4611686018427387904) : x ≤ 2 ^ 64 := Nat.le_trans h (by decide)
def Ls (lt : α → α → Bool) (n : Nat) (d : List α) : Prop := ∀ k, Ig lt ((d.drop (k * n)).take n)
theorem IM {n : Nat} {d : List α} (h : Ig lt d) : Ls lt n d := fun k => Kb (Kd h _) _
theorem MS {n : Nat} {d : List α} (h : Ls lt n d) : Ig lt (d.take n) := by simpa using h 0
theorem My {n : Nat} {d : List α} (h : Ls lt n d) (hn : d.length ≤ n) : Ig lt d := by
 have := MS h
 rwa [List.take_of_length_le hn] at this
theorem VF {n : Nat} {d : List α} (h : Ls lt n d) (q : Nat) : Ls lt n (d.drop (q * n)) := fun k => by
 rw [List.drop_drop, ← Nat.add_mul]; exact h (q + k)
theorem Ki {n q : Nat} {a b : List α} (ha : a.length = q * n) (h1 : Ls lt n a) (h2 : Ls lt n b) : Ls lt n (a ++ b) := fun k => by
 rcases Nat.lt_or_ge k q with c | c
 ·have : (k + 1) * n ≤ q * n := Nat.mul_le_mul_right _ c
  rw [Nat.add_mul, Nat.one_mul] at this
  rw [List.drop_append_of_le_length (by omega), List.take_append_of_le_length (by simp; omega)]
  exact h1 k
 ·obtain ⟨j, rfl⟩ : ∃ j, k = q + j := ⟨k - q, by omega⟩
  rw [Nat.add_mul, ← ha, ← List.drop_drop, List.drop_left]
  exact h2 j
theorem mf (hc : Jl cmp lt) (O : Xo lt) (n : Nat) (hn : n ≤ 1099511627776) : ∀ (N : Nat) (dn rest : List α) (q : Nat), rest.length ≤ N → dn.length = q * 20 → (dn ++ rest).length = n → Ls lt 20 dn →
  ∃ (dn' rest' : List α) (q' : Nat), AJ (KK cmp (n : Int) 20) (dn ++ rest, (dn.length : Int), ((dn.length + 20 : Nat) : Int)) = some (dn' ++ rest', (dn'.length : Int)) ∧ Ls lt 20 dn' ∧ dn'.length = q' * 20 ∧ rest'.length < 20 ∧ GF lt (dn ++ rest) (dn' ++ rest') := by
 intro N
 induction N with
 | zero =>
  intro dn rest q h1 h2 h3 h4
  refine ⟨dn, rest, q, Ae ?_, h4, h2, by omega, GF.refl _⟩
  have : (dn ++ rest).length = dn.length + rest.length := List.length_append
  unfold KK; dsimp only; rw [if_neg (by simp; omega)]
 | succ N ih =>
  intro dn rest q h1 h2 h3 h4
  have hlen : (dn ++ rest).length = dn.length + rest.length := List.length_append
  by_cases c : 20 ≤ rest.length
  ·obtain ⟨w, w1, w2, w3⟩ := jz hc O dn (rest.take 20) (rest.drop 20) (by rw [List.take_append_drop]; omega)
   have lw : w.length = 20 := by rw [w3.len]; simp; omega
   have lt20 : (rest.take 20).length = 20 := by simp; omega
   rw [List.take_append_drop, lt20] at w1
   have st : KK cmp (n : Int) 20 (dn ++ rest, (dn.length : Int), ((dn.length + 20 : Nat) : Int)) = some (.inl ((dn ++ w) ++ rest.drop 20, ((dn ++ w).length : Int), (((dn ++ w).length + 20 : Nat) : Int))) := by
    have e0 : decide (((dn.length + 20 : Nat) : Int) ≤ (n : Int)) = true := decide_eq_true (by omega)
    have w4 : IntKind.i64.wrap (((dn.length + 20 : Nat) : Int) + 20) = (((dn ++ w).length + 20 : Nat) : Int) := by rw [AX (by omega) (by omega)]; simp [lw]; try omega
    unfold KK
    simp only [e0, if_true, w1, Option.bind_some, w4]
    have : ((dn.length + 20 : Nat) : Int) = ((dn ++ w).length : Int) := by simp [lw]
    rw [this, List.append_assoc]
   rw [Ah st]
   obtain ⟨dn', rest', q', k1, k2, k3, k4, k5⟩ := ih (dn ++ w) (rest.drop 20) (q + 1) (by simp; omega) (by simp [lw, h2]; omega) (by simp [lw]; simp at h3; omega) (Ki h2 h4 (IM w2))
   refine ⟨dn', rest', q', k1, k2, k3, k4, GF.trans ?_ k5⟩
   have := ((GF.refl (lt := lt) dn).app w3).app (GF.refl (rest.drop 20))
   rwa [List.append_assoc dn (rest.take 20), List.take_append_drop] at this
  ·refine ⟨dn, rest, q, Ae ?_, h4, h2, by omega, GF.refl _⟩
   unfold KK; dsimp only; rw [if_neg (by simp; omega)]
theorem md (hc : Jl cmp lt) (O : Xo lt) (n bs : Nat) (hn : n ≤ 1099511627776) (hb : 1 ≤ bs) (hbn : bs < n) : ∀ (N : Nat) (dn rest : List α) (q : Nat), rest.length ≤ N → dn.length = q * (2 * bs) → (dn ++ rest).length = n → Ls lt (2 * bs) dn → Ls lt bs rest →
  ∃ (dn' rest' : List α) (q' : Nat), AJ (Hu cmp (n : Int) (bs : Int)) (dn ++ rest, (dn.length : Int), ((dn.length + 2 * bs : Nat) : Int)) = some (dn' ++ rest', (dn'.length : Int)) ∧ Ls lt (2 * bs) dn' ∧ dn'.length = q' * (2 * bs) ∧ rest'.length < 2 * bs ∧ Ls lt bs rest' ∧ GF lt (dn ++ rest) (dn' ++ rest') := by
 intro N
 induction N with
 | zero =>
  intro dn rest q h1 h2 h3 h4 h5
  refine ⟨dn, rest, q, Ae ?_, h4, h2, by omega, h5, GF.refl _⟩
  have : (dn ++ rest).length = dn.length + rest.length := List.length_append
  unfold Hu; dsimp only; rw [if_neg (by simp; omega)]
 | succ N ih =>
  intro dn rest q h1 h2 h3 h4 h5
  have hlen : (dn ++ rest).length = dn.length + rest.length := List.length_append
  by_cases c : 2 * bs ≤ rest.length
  ·have hr : rest = rest.take bs ++ ((rest.drop bs).take bs ++ rest.drop (2 * bs)) := by
    have : rest.drop (2 * bs) = (rest.drop bs).drop bs := by rw [List.drop_drop]; congr 1; omega
    rw [this, List.take_append_drop, List.take_append_drop]
   have lu : (rest.take bs).length = bs := by simp; omega
   have lv : ((rest.drop bs).take bs).length = bs := by simp; omega
   obtain ⟨w, w1, w2, w3⟩ := fc hc O 64 dn (rest.take bs) ((rest.drop bs).take bs) (rest.drop (2 * bs)) (by omega) (by omega) (by rw [lu, lv]; exact YV (by omega)) (MS h5) (by simpa using h5 1) (by rw [← hr]; omega)
   rw [← hr, lu, lv] at w1
   have lw : w.length = 2 * bs := by rw [w3.len]; simp; omega
   have st : Hu cmp (n : Int) (bs : Int) (dn ++ rest, (dn.length : Int), ((dn.length + 2 * bs : Nat) : Int)) = some (.inl ((dn ++ w) ++ rest.drop (2 * bs), ((dn ++ w).length : Int), (((dn ++ w).length + 2 * bs : Nat) : Int))) := by
    have e0 : decide (((dn.length + 2 * bs : Nat) : Int) ≤ (n : Int)) = true := decide_eq_true (by omega)
    have w4 : IntKind.i64.wrap (((dn.length + 2 * bs : Nat) : Int) + IntKind.i64.wrap (2 * (bs : Int))) = (((dn ++ w).length + 2 * bs : Nat) : Int) := by rw [AX (n := 2 * (bs : Int)) (by omega) (by omega), AX (by omega) (by omega)]; simp [lw]; try omega
    have w5 : IntKind.i64.wrap ((dn.length : Int) + (bs : Int)) = ((dn.length + bs : Nat) : Int) := by rw [AX (by omega) (by omega)]; simp
    have w6 : dR cmp (dn ++ rest) (dn.length : Int) ((dn.length + bs : Nat) : Int) ((dn.length + 2 * bs : Nat) : Int) = some (dn ++ (w ++ rest.drop (2 * bs))) := by
     unfold dR; rw [← w1]; congr 2; omega
    unfold Hu
    simp only [e0, if_true, w5, w6, Option.bind_some, w4]
    have : ((dn.length + 2 * bs : Nat) : Int) = ((dn ++ w).length : Int) := by simp [lw]
    rw [this, List.append_assoc]
   rw [Ah st]
   obtain ⟨dn', rest', q', k1, k2, k3, k4, k5, k6⟩ := ih (dn ++ w) (rest.drop (2 * bs)) (q + 1) (by simp; omega) (by rw [Nat.add_mul]; simp [lw, h2]) (by simp [lw]; simp at h3; omega) (Ki h2 h4 (IM w2)) (VF h5 2)
   refine ⟨dn', rest', q', k1, k2, k3, k4, k5, GF.trans ?_ k6⟩
   have := ((GF.refl (lt := lt) dn).app w3).app (GF.refl (rest.drop (2 * bs)))
   rw [List.append_assoc dn, List.append_assoc (rest.take bs), ← hr] at this
   exact this
  ·refine ⟨dn, rest, q, Ae ?_, h4, h2, by omega, h5, GF.refl _⟩
   unfold Hu; dsimp only; rw [if_neg (by simp; omega)]
theorem me (hc : Jl cmp lt) (O : Xo lt) (n : Nat) (hn : n ≤ 1099511627776) : ∀ (N : Nat) (d : List α) (bs : Nat), n - bs ≤ N → 1 ≤ bs → bs ≤ 4398046511104 → d.length = n → Ls lt bs d →
  ∃ d', AJ (HW cmp (n : Int)) (d, (bs : Int)) = some d' ∧ Ig lt d' ∧ GF lt d d' := by
 intro N
 induction N with
 | zero =>
  intro d bs h1 h2 h2' h3 h4
  refine ⟨d, Ae ?_, My h4 (by omega), GF.refl _⟩
  unfold HW; dsimp only; rw [if_neg (by simp; omega)]
 | succ N ih =>
  intro d bs h1 h2 h2' h3 h4
  by_cases c : bs < n
  ·obtain ⟨dn, rest, q, k1, k2, k3, k4, k5, k6⟩ := md hc O n bs hn h2 c d.length [] d 0 (Nat.le_refl _) (by simp) (by simpa using h3) (IM List.Pairwise.nil) h4
   have k6' : GF lt d (dn ++ rest) := by simpa using k6
   have hl : dn.length + rest.length = n := by have := k6'.len; rw [List.length_append] at this; omega
   have e0 : decide ((bs : Int) < (n : Int)) = true := decide_eq_true (by omega)
   have wb : IntKind.i64.wrap (2 * (bs : Int)) = ((2 * bs : Nat) : Int) := by rw [AX (by omega) (by omega)]; omega
   have wb2 : IntKind.i64.wrap ((bs : Int) * 2) = ((2 * bs : Nat) : Int) := by rw [AX (by omega) (by omega)]; omega
   have wm : IntKind.i64.wrap ((dn.length : Int) + (bs : Int)) = ((dn.length + bs : Nat) : Int) := by rw [AX (by omega) (by omega)]; simp
   have k1' : AJ (Hu cmp (n : Int) (bs : Int)) (d, 0, ((2 * bs : Nat) : Int)) = some (dn ++ rest, (dn.length : Int)) := by
    have := k1
    simp only [List.nil_append, List.length_nil, Nat.zero_add] at this
    exact this
   obtain ⟨d2, s1, s2, s3, s4⟩ : ∃ d2, HW cmp (n : Int) (d, (bs : Int)) = some (.inl (d2, ((2 * bs : Nat) : Int))) ∧ Ls lt (2 * bs) d2 ∧ GF lt d d2 ∧ d2.length = n := by
    by_cases m : dn.length + bs < n
    ·have hr : rest = rest.take bs ++ (rest.drop bs ++ []) := by rw [List.append_nil, List.take_append_drop]
     have lu : (rest.take bs).length = bs := by simp; omega
     have lv : (rest.drop bs).length = rest.length - bs := by simp
     have hv : Ig lt (rest.drop bs) := My (by simpa using VF k5 1) (by simp; omega)
     obtain ⟨w, w1, w2, w3⟩ := fc hc O 64 dn (rest.take bs) (rest.drop bs) [] (by omega) (by omega) (YV (by omega)) (MS k5) hv (by rw [← hr]; simp; omega)
     rw [← hr, lu, lv] at w1
     have w6 : dR cmp (dn ++ rest) (dn.length : Int) ((dn.length + bs : Nat) : Int) (n : Int) = some (dn ++ w) := by
      have e : dn.length + bs + (rest.length - bs) = n := by omega
      rw [e, List.append_nil] at w1
      exact w1
     have w3' : GF lt rest w := by rwa [List.take_append_drop] at w3
     have lw : w.length = rest.length := w3'.len
     refine ⟨dn ++ w, ?_, Ki k3 k2 (IM w2), k6'.trans ((GF.refl _).app w3'), by simp; omega⟩
     unfold HW
     simp only [e0, if_true, wb, k1', Option.bind_some, wm]
     rw [if_pos (decide_eq_true (by omega)), w6, Option.bind_some, wb2]
    ·refine ⟨dn ++ rest, ?_, Ki k3 k2 (IM (My k5 (by omega))), k6', by simp; omega⟩
     unfold HW
     simp only [e0, if_true, wb, k1', Option.bind_some, wm]
     rw [if_neg (by simp; omega), wb2]
   rw [Ah s1]
   obtain ⟨d', t1, t2, t3⟩ := ih d2 (2 * bs) (by omega) (by omega) (by omega) s4 s2
   exact ⟨d', t1, t2, s3.trans t3⟩
  ·refine ⟨d, Ae ?_, My h4 (by omega), GF.refl _⟩
   unfold HW; dsimp only; rw [if_neg (by simp; omega)]
theorem ls (hc : Jl cmp lt) (O : Xo lt) {d : List α} (hl : d.length ≤ 1099511627776) : ∃ d', nU cmp d (d.length : Int) = some d' ∧ Ig lt d' ∧ GF lt d d' := by
 obtain ⟨dn, rest, q, k1, k2, k3, k4, k5⟩ := mf hc O d.length hl d.length [] d 0 (Nat.le_refl _) (by simp) (by simp) (IM List.Pairwise.nil)
 have k5' : GF lt d (dn ++ rest) := by simpa using k5
 have hl2 : dn.length + rest.length = d.length := by have := k5'.len; rw [List.length_append] at this; omega
 have k1' : AJ (KK cmp (d.length : Int) 20) (d, 0, 20) = some (dn ++ rest, (dn.length : Int)) := by
  have := k1
  simp only [List.nil_append, List.length_nil, Nat.zero_add] at this
  exact this
 obtain ⟨w, w1, w2, w3⟩ := jz hc O dn rest [] (by simp; omega)
 rw [List.append_nil, List.append_nil, hl2] at w1
 have lw : w.length = rest.length := w3.len
 obtain ⟨d', t1, t2, t3⟩ := me hc O d.length hl d.length (dn ++ w) 20 (by omega) (by omega) (by omega) (by simp; omega) (Ki k3 k2 (IM w2))
 refine ⟨d', ?_, t2, k5'.trans (((GF.refl _).app w3).trans t3)⟩
 unfold nU
 rw [k1', Option.bind_some, w1, Option.bind_some]
 have t1' : AJ (HW cmp (d.length : Int)) (dn ++ w, 20) = some d' := t1
 rw [t1', Option.bind_some]
 have : (d'.length == d.length) = true := by have := t3.len; simp at this ⊢; omega
 rw [this, AN]
end
end Go.Proofs.YthdmeanbdohehaaGreatDoor.stab
