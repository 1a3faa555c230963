/- Plain lemmas on typed code: loops over indexes, bounds. No condition. -/
import Derived.Test.YtfaenphcgfocnaaGreatDoorEngTC
namespace Go.Proofs.YtfaenphcgfocnaaGreatDoor
open Go Go.RowKit
set_option linter.unusedSimpArgs false
set_option linter.unusedVariables false
theorem Ze {α:Type} {c:Bool} [inst:Decidable (c = true)] (a b:α):@ite α (c = true) inst a b = cond c a b:=by cases c <;> simp
theorem Ak (i n:Nat):BA (i:Int) n = decide (i < n):=by
 simp only [BA]; by_cases h:i < n <;> simp [h] <;> omega
theorem GA {i:Int} {n:Nat} (h1:0 ≤ i) (h2:i < n):BA i n = true:=by simp [BA,h1,h2]
theorem FH {a b:Int} {n:Nat} (h1:0 ≤ a) (h2:a ≤ b) (h3:b ≤ n):FI a b n = true:=by simp [FI,h1,h2,h3]
theorem Pp {n:Int} (h:n ≠ 0):nz n = true:=by simp [nz,h]
theorem vg {n:Int} (h:0 ≤ n):gH n = true:=by simp [gH,h]
theorem KP {m n:Nat} (h:m + n ≤ 9223372036854775807):IJ m n = true:=by simp [IJ,h]
theorem Bf {n b:Nat} (h:n * b ≤ 140737488355328):BW n b = true:=by simp [BW,h]
theorem jP {n:Int} {b:Nat} (h1:0 ≤ n) (h2:1 ≤ b) (h3:n * b ≤ 281474976710656):qc n b = true:=by simp [qc,h1,h2,h3]
theorem Ar {i:Nat} (h:i < 9223372036854775807):IntKind.i64.wrap ((i:Int) + 1) = ((i + 1:Nat):Int):=by
 rw [wrap_i64 (by omega) (by omega)]; simp
theorem ao (n:Int):Yv (IntKind.i64.wrap n):=by
 unfold Yv IntKind.wrap IntKind.bits; simp [IntKind.signed]; omega
theorem Ch {α:Type} {xs:List α} {i:Nat} (h:i < xs.length) (d:α):xs.getD i d = xs[i]:=by
 simp [List.getD_eq_getElem?_getD,List.getElem?_eq_getElem h]
theorem Ek {ρ:Type} {step:Int → Option (Int ⊕ ρ)} (p:Nat → Bool) (n:Nat) (q:Bool) {yes no:ρ} (hq:q = true ↔ ∀ i,i < n → p i = true) (hs:∀ i:Nat,i < n → step (i:Int) = some (if p i = true then .inl ((i + 1:Nat):Int) else .inr no))
  (he:step (n:Int) = some (.inr yes)):AL step 0 = some (if q = true then yes else no):=by
 have good:∀ m i:Nat,i + m = n → (∀ j,i ≤ j → j < n → p j = true) → AL step (i:Int) = some yes:=by
  intro m
  induction m with
  | zero =>
   intro i hi _
   obtain rfl:i = n:=by omega
   exact Br he
  | succ m ih =>
   intro i hi h
   rw [DU (by rw [hs i (by omega),if_pos (h i (Nat.le_refl _) (by omega))])]
   exact ih (i + 1) (by omega) fun j h1 h2 => h j (by omega) h2
 have bad:∀ m i:Nat,i + m = n → (∃ j,i ≤ j ∧ j < n ∧ p j = false) → AL step (i:Int) = some no:=by
  intro m
  induction m with
  | zero => rintro i hi ⟨j,h1,h2,_⟩; omega
  | succ m ih =>
   rintro i hi ⟨j,h1,h2,h3⟩
   by_cases hp:p i = true
   ·rw [DU (by rw [hs i (by omega),if_pos hp])]
    refine ih (i + 1) (by omega) ⟨j,?_,h2,h3⟩
    rcases Nat.lt_or_ge i j with c | c
    ·omega
    ·obtain rfl:i = j:=by omega
     rw [h3] at hp; cases hp
   ·exact Br (by rw [hs i (by omega),if_neg hp])
 cases q with
 | true => exact good n 0 (by omega) fun j _ h => hq.1 rfl j h
 | false =>
  refine bad n 0 (by omega) ?_
  refine Classical.byContradiction fun hc => ?_
  have:false = true:=hq.2 fun i hi => by
   cases hp:p i with
   | true => rfl
   | false => exact absurd ⟨i,Nat.zero_le _,hi,hp⟩ hc
  cases this
theorem PJ {σ ρ:Type} {step:σ × Int → Option ((σ × Int) ⊕ ρ)} (f:Nat → σ) (n:Nat) {r:ρ} (hs:∀ i:Nat,i < n → step (f i,(i:Int)) = some (.inl (f (i + 1),((i + 1:Nat):Int))))
  (he:step (f n,(n:Int)) = some (.inr r)):AL step (f 0,0) = some r:=by
 have:=JD (step:=step) (fun i => (f i,(i:Int))) n (fun i hi => hs i hi) he
 exact this
theorem ES {σ ρ:Type} {step:σ → Option (σ ⊕ ρ)} (inv:σ → Prop) (Q:ρ → Prop) (μ:σ → Nat)
  (h:∀ s,inv s → (∃ s',step s = some (.inl s') ∧ inv s' ∧ μ s' < μ s) ∨ ∃ r,step s = some (.inr r) ∧ Q r) {s:σ} (hs:inv s):∃ y,AL step s = some y ∧ Q y:=by
 generalize hm:μ s = m
 induction m using Nat.strongRecOn generalizing s with
 | _ m ih =>
  rcases h s hs with ⟨s',e,hi,hl⟩ | ⟨r,e,hq⟩
  ·rw [DU e]; exact ih _ (by omega) hi rfl
  ·exact ⟨r,Br e,hq⟩
def AGQ {α:Type} (f:α → Int → α) (c:Nat):List α → Int → List α
 | [],_ => []
 | x :: r,k => f x k :: AGQ f c r (k + c)
theorem LW {α:Type} {xs:List α} {i:Nat} (h:i < xs.length) (d:α):xs.getD i d ∈ xs:=by
 rw [Ch h]; exact List.getElem_mem h
theorem KR {n:Nat} {p:Nat → Bool} (h:(List.range n).all p = true) {i:Nat} (hi:i < n):p i = true:=by
 simp only [List.all_eq_true,List.mem_range] at h; exact h i hi
section
variable {H:Type} {enc:TypeId × Value → H} {P:Program}
theorem AFI (hl:laidOutB P = true) {t:TypeId} (hr:P.readableRec t = true) (hrow:t < P.types.size) {W W':World} (hs:At (fun _ => False) W W') {sp:Nat → Bool} {v:Value} {d:DataW H} {ps before:List MemPlace}
  (h:DataW.Trod enc P W 0 (fun _ => true) true t v d ps) (hsub:∀ p ∈ ps,p ∈ before) (hlt:∀ p ∈ before,p.block < W.heap.size) (hsp:∀ p ∈ before,sp p.block = true):DataW.Trod enc P W' 0 sp true t v d ps :=
 WideElems.Trod_stays hl hr hrow h (fun p hp => hs.sameAt (hlt p (hsub p hp))) (fun p hp => hsp p (hsub p hp))
end
end Go.Proofs.YtfaenphcgfocnaaGreatDoor
