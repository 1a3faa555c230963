/- A statement whose operations may come in several orders. No condition. -/
import Derived.Test.YtgbopjgnggdhkaaEngUB
import Derived.Orders
namespace Go.Proofs.Ytgbopjgnggdhkaa
open Go Go.RowKit
set_option linter.unusedSimpArgs false
set_option linter.unusedVariables false

def dIns : Ins := ⟨.no, 0, none, .mov (.c .any)⟩

def depOf (ops : Array Oper) (i j : Nat) : Bool :=
  match ops[j]? with
  | some o => o.after.any fun e => Region.binds .any e && e.on == i
  | none => false

def cmOf (is : List Ins) (i j : Nat) : Bool := com (is.getD i dIns) (is.getD j dIns)

def ssOf (vm : List Nat) (ops : Array Oper) : List Nat := ((ops.toList.filterMap (·.dst)).filter fun d => !vm.contains d).eraseDups

def chkAt (P : Program) (n : Nat) (ops : Array Oper) (vm ss : List Nat) (is : List Ins) (j : Nat) : Bool :=
  match ops[j]? with
  | some o => o.after.all (fun e => !Region.binds .any e || decide (e.on < j)) && chkIns P n ops vm ss o (is.getD j dIns) == some ss
  | none => false

/-- The operations are those of the text, and every order of theirs is looked at. -/
def chkAny (P : Program) (n : Nat) (ops : Array Oper) (vm ss : List Nat) (k : Nat) (is : List Ins) (alts : List (List Nat)) : Bool :=
  P.follows .mixedOrders && (ss.length == k && (ss.all (fun t => decide (t < n)) && (is.length == ops.size && ((List.range ops.size).all (chkAt P n ops vm ss is) &&
    (explore (depOf ops) (cmOf is) ops.size (List.range ops.size)).all fun ρ => ρ == List.range ops.size || alts.contains ρ))))

noncomputable def runL (T : Tbl) (is : List Ins) (s : St) (l : List Nat) : St := l.foldl (fun s i => doIns T s (is.getD i dIns)) s

theorem runL_pick {T : Tbl} {is : List Ins} : ∀ (l : List Nat) (s : St), doList T (pickIs is l) s = runL T is s l
  | [], s => rfl
  | i :: l, s => runL_pick l (doIns T s (is.getD i dIns))

theorem pickIs_range (is : List Ins) : pickIs is (List.range is.length) = is := by
  unfold pickIs
  apply List.ext_getElem
  · simp
  · intro i h1 h2
    simp [List.getD_eq_getElem?_getD, List.getElem?_eq_getElem h2]

theorem runL_ok {T : Tbl} {is : List Ins} : ∀ (l : List Nat) {s : St}, (runL T is s l).ok = true → s.ok = true
  | [], _, h => h
  | i :: l, s, h => doIns_ok (runL_ok l (s := doIns T s (is.getD i dIns)) h)

theorem altsOk_get {T : Tbl} {is : List Ins} {s r : St} : ∀ {alts : List (List Nat)}, altsOk T is s r alts = true → ∀ l, l ∈ alts → doList T (pickIs is l) s = r
  | [], _, l, h => by simp at h
  | a :: alts, h, l, hl => by
    simp only [altsOk, Bool.and_eq_true, decide_eq_true_eq] at h
    rcases List.mem_cons.1 hl with e | hl
    · subst e; exact h.1
    · exact altsOk_get h.2 l hl

section
variable {F Iow : Nat → Prop} {w0 : World} {g0 : Gh} {o0 : Obs} {g : Gh} {w w' : World} {tmps : Array Value} {ds : List Deferred} {vm ss ss' : List Nat} {s : St} {P : Program} {T : Tbl}
  {Q : Exit → Act → World → Prop} {ops : Array Oper} {n : Nat}

theorem FX.grow (h : FX F Iow w0 g0 o0 g w tmps vm ss s) (hw : Same (fun _ => False) w w') : FX F Iow w0 g0 o0 g w' tmps vm ss s :=
  FX.mk' (w := w) (h.toFR.grow hw) h.same (hw.mono fun _ _ c => c.elim) h.hio h.fio h.par

theorem FX.slots (h : FX F Iow w0 g0 o0 g w tmps vm [] s) {k : Nat} (hk : ss.length = k) (hf : ∀ t, t ∈ ss → t < tmps.size) : FX F Iow w0 g0 o0 g w tmps vm ss (slots k s) := by
  refine ⟨⟨h.home, h.inj, h.nF, h.fb, h.vl, by simp [Go.Proofs.Ytgbopjgnggdhkaa.slots, hk], h.vs, fun i hi => ?_, fun t ht => ?_, h.tab⟩, h.same, h.hio, h.fio, h.par⟩
  · simp only [Go.Proofs.Ytgbopjgnggdhkaa.slots]
    have : (List.replicate k AV.any).getD i .any = .any := by rw [List.getD_eq_getElem?_getD, List.getElem?_replicate]; split <;> rfl
    rw [this]; exact SR.any
  · rcases ht with ht | ht
    · exact h.fit t (.inl ht)
    · exact hf t ht

theorem any_step (hT : TSound P T) (hnd : vm.Nodup) {is : List Ins} (hchk : ∀ j, j < ops.size → chkAt P n ops vm ss is j = true) {r : St} (hrok : r.ok = true)
    (hQ : ∀ tmps' w' g', tmps'.size = n → FX F Iow w0 g0 o0 g' w' tmps' vm ss r → Q .normal ⟨tmps', ds⟩ w') :
    ∀ (fuel : Nat) (rem : List Nat) (listed : Array Bool) {s : St} {g : Gh} {w : World} {tmps : Array Value}, rem.Pairwise (· < ·) → (∀ i, i ∈ rem → i < ops.size) → listed.size = ops.size → (∀ i, i < ops.size → (listed.getD i true = true ↔ i ∉ rem)) → rem.length ≤ fuel →
      (∀ π, π.Perm rem → Lin (depOf ops) π → runL T is s π = r) → FX F Iow w0 g0 o0 g w tmps vm ss s → tmps.size = n → wpAny P .any ops Q fuel listed ⟨tmps, ds⟩ w := by
  have hdep : ∀ i j, depOf ops i j = true → i < j := by
    intro i j hd
    unfold depOf at hd
    split at hd
    · rename_i o ho
      have hj : j < ops.size := by
        rcases Nat.lt_or_ge j ops.size with h' | h'
        · exact h'
        · rw [Array.getElem?_eq_none h'] at ho; cases ho
      have hc := hchk j hj
      unfold chkAt at hc
      rw [ho] at hc
      simp only [Bool.and_eq_true, Array.all_eq_true, Array.any_eq_true] at hc hd
      obtain ⟨x, hx, hb, he⟩ := hd
      have := hc.1 x hx
      simp only [Bool.or_eq_true, Bool.not_eq_true', decide_eq_true_eq, beq_iff_eq] at this he
      rcases this with e | e
      · rw [hb] at e; cases e
      · omega
    · cases hd
  have hlinS : ∀ (l : List Nat), l.Pairwise (· < ·) → Lin (depOf ops) l := fun l hl => hl.imp fun {a b} hab => by
    cases hd : depOf ops b a with
    | false => rfl
    | true => have := hdep b a hd; omega
  have hready : ∀ (rem : List Nat) (listed : Array Bool), (∀ i, i ∈ rem → i < ops.size) → listed.size = ops.size → (∀ i, i < ops.size → (listed.getD i true = true ↔ i ∉ rem)) → ∀ i, i ∈ Region.ready .any ops listed → i ∈ rem ∧ ∀ k, k ∈ rem → depOf ops k i = false := by
    intro rem listed hb hsz hl i hi
    obtain ⟨h1, h2⟩ := List.mem_filter.1 hi
    have hiN : i < ops.size := by simpa using h1
    simp only [Bool.and_eq_true, Bool.not_eq_true', Array.getElem?_eq_getElem hiN, Option.map_some, Option.getD_some, Array.all_eq_true] at h2
    obtain ⟨h3, h4⟩ := h2
    refine ⟨?_, fun k hk => ?_⟩
    · by_cases hm : i ∈ rem
      · exact hm
      · have := (hl i hiN).2 hm; rw [h3] at this; cases this
    · cases hd : depOf ops k i with
      | false => rfl
      | true =>
        unfold depOf at hd
        rw [Array.getElem?_eq_getElem hiN] at hd
        simp only [Array.any_eq_true, Bool.and_eq_true, beq_iff_eq] at hd
        obtain ⟨x, hx, hbd, he⟩ := hd
        have h5 := h4 x hx
        rw [hbd, he] at h5
        simp only [Bool.not_true, Bool.false_or] at h5
        have hkN := hb k hk
        have h6 : listed.getD k true = true := by
          rw [← h5, Array.getD_eq_getD_getElem?, Array.getD_eq_getD_getElem?, Array.getElem?_eq_getElem (by omega)]; rfl
        exact absurd hk ((hl k hkN).1 h6)
  have hsome : ∀ (rem : List Nat) (listed : Array Bool), rem.Pairwise (· < ·) → (∀ i, i ∈ rem → i < ops.size) → listed.size = ops.size → (∀ i, i < ops.size → (listed.getD i true = true ↔ i ∉ rem)) → Region.ready .any ops listed = [] → rem = [] := by
    intro rem listed hs hb hsz hl h0
    cases rem with
    | nil => rfl
    | cons a r =>
      exfalso
      have haN := hb a (by simp)
      have hc := hchk a haN
      unfold chkAt at hc
      rw [Array.getElem?_eq_getElem haN] at hc
      simp only [Bool.and_eq_true, Array.all_eq_true] at hc
      have hmem : a ∈ Region.ready .any ops listed := by
        refine List.mem_filter.2 ⟨by simpa using haN, ?_⟩
        simp only [Bool.and_eq_true, Bool.not_eq_true', Array.getElem?_eq_getElem haN, Option.map_some, Option.getD_some, Array.all_eq_true]
        refine ⟨?_, fun x hx => ?_⟩
        · cases hla : listed.getD a true with
          | false => rfl
          | true => exact absurd (List.mem_cons_self) ((hl a haN).1 hla)
        · have h5 := hc.1 x hx
          simp only [Bool.or_eq_true, Bool.not_eq_true', decide_eq_true_eq] at h5 ⊢
          refine h5.imp id fun hlt => ?_
          have hk : (ops[a].after[x]).on < ops.size := by omega
          have hnm : (ops[a].after[x]).on ∉ a :: r := by
            intro hm
            rcases List.mem_cons.1 hm with e | hm
            · omega
            · have := (List.pairwise_cons.1 hs).1 _ hm; omega
          have h6 := (hl _ hk).2 hnm
          rw [← h6, Array.getD_eq_getD_getElem?, Array.getD_eq_getD_getElem?, Array.getElem?_eq_getElem (by omega)]; rfl
      rw [h0] at hmem; simp at hmem
  intro fuel
  induction fuel with
  | zero =>
    intro rem listed s g w tmps hs hb hsz hl hf H hfx hn
    have hr0 : rem = [] := List.length_eq_zero_iff.1 (by omega)
    subst hr0
    have e := H [] (List.Perm.refl _) List.Pairwise.nil
    have e' : s = r := e
    subst e'
    refine ⟨?_, hQ _ _ _ hn hfx⟩
    rw [List.eq_nil_iff_forall_not_mem]
    intro i hi
    exact absurd (hready [] listed hb hsz hl i hi).1 (by simp)
  | succ fuel ih =>
    intro rem listed s g w tmps hs hb hsz hl hf H hfx hn
    refine ⟨fun h0 => ?_, fun i hi => ?_⟩
    · have hr0 := hsome rem listed hs hb hsz hl h0
      subst hr0
      have e := H [] (List.Perm.refl _) List.Pairwise.nil
      have e' : s = r := e
      subst e'
      exact hQ _ _ _ hn hfx
    · obtain ⟨him, hdi⟩ := hready rem listed hb hsz hl i hi
      have hiN := hb i him
      have hc := hchk i hiN
      unfold chkAt at hc
      rw [Array.getElem?_eq_getElem hiN] at hc
      simp only [Bool.and_eq_true, beq_iff_eq] at hc
      have hnodup : rem.Nodup := hs.imp fun {a b} h => Nat.ne_of_lt h
      have hes : (rem.erase i).Pairwise (· < ·) := hs.sublist List.erase_sublist
      have hlin : ∀ π, π.Perm (rem.erase i) → Lin (depOf ops) π → Lin (depOf ops) (i :: π) := fun π hp hl => List.pairwise_cons.2 ⟨fun k hk => hdi k (List.mem_of_mem_erase (hp.mem_iff.1 hk)), hl⟩
      have hperm : ∀ π, π.Perm (rem.erase i) → (i :: π).Perm rem := fun π hp => (hp.cons i).trans (List.perm_cons_erase him).symm
      have hok : (doIns T s (is.getD i dIns)).ok = true := by
        have e := H (i :: rem.erase i) (hperm _ (List.Perm.refl _)) (hlin _ (List.Perm.refl _) (hlinS _ hes))
        refine runL_ok (T := T) (is := is) (rem.erase i) ?_
        have e2 : runL T is (doIns T s (is.getD i dIns)) (rem.erase i) = r := e
        rw [e2]; exact hrok
      have hstep := ins_step (ds := ds) (Q := Q) (K := wpAny P .any ops Q fuel (listed.setIfInBounds i true)) hT hfx hnd hn hc.2 hok fun tmps' w' g' hn' hfx' => ?_
      · unfold wpOp
        rw [Array.getElem?_eq_getElem hiN]
        simp only
        split
        · rename_i hw; rw [if_pos hw] at hstep; exact .inl hstep
        · rename_i hw; rw [if_neg hw] at hstep; exact hstep
      · refine ih (rem.erase i) _ hes (fun k hk => hb k (List.mem_of_mem_erase hk)) (by simpa using hsz) (fun k hk => ?_) (by rw [List.length_erase_of_mem him]; omega) (fun π hp hl => H (i :: π) (hperm π hp) (hlin π hp hl)) hfx' hn'
        rw [hnodup.mem_erase_iff]
        by_cases e : i = k
        · subst e
          simp [Array.getD_eq_getD_getElem?, hsz, hiN]
        · rw [Array.getD_eq_getD_getElem?, Array.getElem?_setIfInBounds_ne e, ← Array.getD_eq_getD_getElem?, hl k hk]
          simp [Ne.symm e]

theorem any_ok (hT : TSound P T) (hnd : vm.Nodup) {k id : Nat} {is : List Ins} {alts : List (List Nat)} (hc : chkAny P n ops vm ss k is alts = true) (h : FX F Iow w0 g0 o0 g w tmps vm [] s) (hn : tmps.size = n) (hok : (anyS T k is alts s).ok = true)
    (hQ : ∀ tmps' w' g', tmps'.size = n → FX F Iow w0 g0 o0 g' w' tmps' vm ss (anyS T k is alts s) → Q .normal ⟨tmps', ds⟩ w') : (Code.region id ops true).wp P Q ⟨tmps, ds⟩ w := by
  simp only [chkAny, Bool.and_eq_true, beq_iff_eq, List.all_eq_true, decide_eq_true_eq, Bool.or_eq_true, List.contains_eq_mem, List.mem_range] at hc
  obtain ⟨hm, hk, hss, hil, hat, hex⟩ := hc
  have hboth : (doList T is (slots k s)).ok = true ∧ altsOk T is (slots k s) (doList T is (slots k s)) alts = true := by
    simpa [anyS, andOk] using hok
  have hdr : ({ w with drawn := w.drawn + 1 } : World) = w.drew := rfl
  have hfx := (h.slots (ss := ss) hk (fun t ht => by rw [hn]; exact hss t ht)).grow (w' := { w with drawn := w.drawn + 1 }) (by rw [hdr]; exact Same.drew _ _)
  have hrange : runL T is (slots k s) (List.range ops.size) = doList T is (slots k s) := by
    rw [← runL_pick, ← hil, pickIs_range]
  refine wp_region_any hm (any_step hT hnd (is := is) (r := doList T is (slots k s)) (fun j hj => hat j hj) hboth.1 (fun tmps' w' g' hn' hf => hQ tmps' w' g' hn' ?_) ops.size (List.range ops.size) _ List.pairwise_lt_range (fun i hi => by simpa using hi) (by simp) (fun i hi => ?_) (by simp) (fun π hp hl => ?_) hfx hn)
  · exact hf.setOk _
  · simp [Array.getD_eq_getD_getElem?, hi]
  · have hirr : ∀ i, depOf ops i i = false := by
      intro i
      cases hd : depOf ops i i with
      | false => rfl
      | true =>
        unfold depOf at hd
        split at hd
        · rename_i o ho
          have hj : i < ops.size := by
            rcases Nat.lt_or_ge i ops.size with h' | h'
            · exact h'
            · rw [Array.getElem?_eq_none h'] at ho; cases ho
          have hc := hat i hj
          unfold chkAt at hc
          rw [ho] at hc
          simp only [Bool.and_eq_true, Array.all_eq_true, Array.any_eq_true] at hc hd
          obtain ⟨x, hx, hb, he⟩ := hd
          have := hc.1 x hx
          simp only [Bool.or_eq_true, Bool.not_eq_true', decide_eq_true_eq, beq_iff_eq] at this he
          rcases this with e | e
          · rw [hb] at e; cases e
          · omega
        · cases hd
    obtain ⟨ρ, hρ, he⟩ := explore_all (f := fun i s => doIns T s (is.getD i dIns)) (fun i j s hcm => com_ok hcm) hirr ops.size (List.range ops.size) (by simp) List.nodup_range π hp hl
    have h1 : runL T is (slots k s) π = runL T is (slots k s) ρ := he _
    rw [h1]
    rcases hex ρ hρ with e | e
    · rw [e]; exact hrange
    · rw [← runL_pick]; exact altsOk_get hboth.2 ρ e

end
end Go.Proofs.Ytgbopjgnggdhkaa
