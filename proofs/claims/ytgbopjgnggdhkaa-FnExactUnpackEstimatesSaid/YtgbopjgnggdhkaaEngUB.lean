/- The orders of a statement, up to what commutes. No condition. -/
import Derived.Test.YtgbopjgnggdhkaaEngUA
namespace Go.Proofs.Ytgbopjgnggdhkaa
open Go Go.RowKit
set_option linter.unusedSimpArgs false
set_option linter.unusedVariables false

/-- No later one is asked for by an earlier one. -/
def Lin (dep : Nat → Nat → Bool) (l : List Nat) : Prop := l.Pairwise fun a b => dep b a = false

/-- Those that hang on j, through others of the list; the list is rising. -/
def descs (dep : Nat → Nat → Bool) (j : Nat) : List Nat → List Nat → List Nat
  | acc, [] => acc
  | acc, i :: r => descs dep j (bif dep j i || acc.any (fun k => dep k i) then i :: acc else acc) r

def isFree (dep cm : Nat → Nat → Bool) (rem : List Nat) (j : Nat) : Bool :=
  rem.all fun i => i == j || ((descs dep j [] rem).contains i || cm j i)

def ready (dep : Nat → Nat → Bool) (rem : List Nat) : List Nat := rem.filter fun j => rem.all fun i => !dep i j

def explore (dep cm : Nat → Nat → Bool) : Nat → List Nat → List (List Nat)
  | 0, _ => [[]]
  | n + 1, rem =>
    match rem with
    | [] => [[]]
    | _ => match (ready dep rem).find? (isFree dep cm rem) with
      | some j => (explore dep cm n (rem.erase j)).map (j :: ·)
      | none => (ready dep rem).flatMap fun j => (explore dep cm n (rem.erase j)).map (j :: ·)

section
variable {dep cm : Nat → Nat → Bool}

theorem descs_sub {j : Nat} {p q : List Nat} (hl : Lin dep (p ++ j :: q)) : ∀ (r acc : List Nat), (∀ i, i ∈ acc → i ∉ p ∧ i ∈ p ++ j :: q) → (∀ i, i ∈ r → i ∈ p ++ j :: q) → ∀ i, i ∈ descs dep j acc r → i ∉ p
  | [], acc, ha, _, i, hi => (ha i hi).1
  | a :: r, acc, ha, hr, i, hi => by
    simp only [descs] at hi
    refine descs_sub hl r _ (fun k hk => ?_) (fun k hk => hr k (by simp [hk])) i hi
    cases hc : dep j a || acc.any (fun k => dep k a) with
    | false => rw [hc] at hk; exact ha k hk
    | true =>
      rw [hc] at hk
      simp only [cond_true, List.mem_cons] at hk
      rcases hk with rfl | hk
      · refine ⟨fun hp => ?_, hr k (by simp)⟩
        unfold Lin at hl
        rw [List.pairwise_append] at hl
        have hcross := hl.2.2 k hp
        simp only [Bool.or_eq_true, List.any_eq_true] at hc
        rcases hc with hc | ⟨m, hm, hc⟩
        · have := hcross j (by simp); rw [hc] at this; cases this
        · obtain ⟨hmp, hmm⟩ := ha m hm
          have hmq : m ∈ j :: q := by
            rcases List.mem_append.1 hmm with h | h
            · exact absurd h hmp
            · exact h
          have := hcross m hmq; rw [hc] at this; cases this
      · exact ha k hk

/-- Each order is one of those that are looked at, up to what commutes. -/
theorem explore_all {σ : Type} {f : Nat → σ → σ} (hcm : ∀ i j s, cm i j = true → f j (f i s) = f i (f j s)) (hirr : ∀ i, dep i i = false) :
    ∀ (n : Nat) (rem : List Nat), rem.length ≤ n → rem.Nodup → ∀ π, π.Perm rem → Lin dep π → ∃ ρ ∈ explore dep cm n rem, ∀ s, π.foldl (fun s i => f i s) s = ρ.foldl (fun s i => f i s) s := by
  intro n
  induction n with
  | zero =>
    intro rem hn _ π hp _
    have : rem = [] := List.length_eq_zero_iff.1 (by omega)
    subst this
    have := hp.eq_nil
    subst this
    exact ⟨[], by simp [explore], fun s => rfl⟩
  | succ n ih =>
    intro rem hn hnd π hp hl
    cases rem with
    | nil =>
      have := hp.eq_nil
      subst this
      exact ⟨[], by simp [explore], fun s => rfl⟩
    | cons r0 rr =>
      have hnd' : π.Nodup := hp.nodup_iff.2 hnd
      simp only [explore]
      cases hfind : (ready dep (r0 :: rr)).find? (isFree dep cm (r0 :: rr)) with
      | some j =>
        have hj : j ∈ r0 :: rr := by
          have := List.mem_of_find?_eq_some hfind
          exact (List.mem_filter.1 this).1
        have hfree := List.find?_some hfind
        obtain ⟨p, q, rfl⟩ := List.append_of_mem (hp.mem_iff.2 hj)
        have hjp : j ∉ p := by
          intro c
          rw [List.nodup_append] at hnd'
          exact hnd'.2.2 j c j (by simp) rfl
        -- what stands ahead of j commutes with it
        have hcom : ∀ i, i ∈ p → cm j i = true := by
          intro i hi
          simp only [isFree, List.all_eq_true] at hfree
          have hir : i ∈ r0 :: rr := hp.mem_iff.1 (by simp [hi])
          have := hfree i hir
          simp only [Bool.or_eq_true, beq_iff_eq, List.contains_eq_mem, decide_eq_true_eq] at this
          rcases this with e | e | e
          · exact absurd hi (e ▸ hjp)
          · exact absurd hi (descs_sub hl (r0 :: rr) [] (fun k hk => by simp at hk) (fun k hk => hp.mem_iff.2 hk) i e)
          · exact e
        have hmove : ∀ (p : List Nat), (∀ i, i ∈ p → cm j i = true) → ∀ s, f j (p.foldl (fun s i => f i s) s) = p.foldl (fun s i => f i s) (f j s) := by
          intro p
          induction p with
          | nil => intro _ s; rfl
          | cons a p ihp =>
            intro hc s
            simp only [List.foldl_cons]
            rw [ihp (fun i hi => hc i (by simp [hi])), hcm j a s (hc a (by simp))]
        have hperm : (p ++ q).Perm ((r0 :: rr).erase j) := by
          have h1 : (p ++ j :: q).Perm (j :: (p ++ q)) := List.perm_middle
          have h2 := (h1.symm.trans hp).erase j
          simpa using h2
        have hlin : Lin dep (p ++ q) := by
          unfold Lin at hl ⊢
          exact hl.sublist (List.Sublist.append (List.Sublist.refl p) (List.sublist_cons_self j q))
        obtain ⟨ρ, hρ, he⟩ := ih _ (by rw [List.length_erase_of_mem hj]; simp at hn ⊢; omega) (hnd.erase j) (p ++ q) hperm hlin
        refine ⟨j :: ρ, List.mem_map.2 ⟨ρ, hρ, rfl⟩, fun s => ?_⟩
        rw [List.foldl_append, List.foldl_cons, hmove p hcom, List.foldl_cons, ← he, List.foldl_append]
      | none =>
        cases π with
        | nil => have := hp.symm.eq_nil; cases this
        | cons j π' =>
          have hj : j ∈ r0 :: rr := hp.mem_iff.1 (by simp)
          have hready : j ∈ ready dep (r0 :: rr) := by
            refine List.mem_filter.2 ⟨hj, List.all_eq_true.2 fun i hi => ?_⟩
            have hiπ : i ∈ j :: π' := hp.mem_iff.2 hi
            rcases List.mem_cons.1 hiπ with e | hiπ
            · rw [e, hirr]; rfl
            · unfold Lin at hl
              rw [List.pairwise_cons] at hl
              rw [hl.1 i hiπ]; rfl
          have hperm : π'.Perm ((r0 :: rr).erase j) := by
            have h2 := hp.erase j
            simpa using h2
          have hlin : Lin dep π' := by unfold Lin at hl ⊢; exact (List.pairwise_cons.1 hl).2
          obtain ⟨ρ, hρ, he⟩ := ih _ (by rw [List.length_erase_of_mem hj]; simp at hn ⊢; omega) (hnd.erase j) π' hperm hlin
          refine ⟨j :: ρ, List.mem_flatMap.2 ⟨j, hready, List.mem_map.2 ⟨ρ, hρ, rfl⟩⟩, fun s => ?_⟩
          rw [List.foldl_cons, List.foldl_cons, he]

end
end Go.Proofs.Ytgbopjgnggdhkaa
