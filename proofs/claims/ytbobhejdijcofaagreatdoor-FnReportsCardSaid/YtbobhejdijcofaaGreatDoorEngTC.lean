/- The arguments of a law, from the way in which its row reads them to typed values. No condition. -/
import Derived.Test.YtbobhejdijcofaaGreatDoorEngTA
import Derived.WideKeyArgs
import Derived.ChangeArms
namespace Go.Proofs.YtbobhejdijcofaaGreatDoor
open Go Go.RowKit Go.ChangeShapes Go.WideShapes Go.ChangeAt
set_option linter.unusedSimpArgs false
set_option linter.unusedVariables false

/-- The outer form of a type. -/
inductive Sh where
  | bool | int (k : IntKind) | str
  | sl (sz : Nat) (agg : Bool) (e : Sh)
  | st (b : Sh)
  | nil | cons (a b : Sh)

def Fits : Sh → List AV → Prop
  | .bool, cs => ∃ b, cs = [.bool b]
  | .int k, cs => ∃ n, cs = [.int k n] ∧ (Lit.int k n).wf = true
  | .str, cs => ∃ l : List UInt8, cs = [.str l] ∧ l.length ≤ maxLen
  | .sl sz agg e, cs => ∃ els : List AV, cs = [.sl sz els] ∧ els.length ≤ maxLen ∧ ∀ el ∈ els, el.isAgg = agg ∧ Fits e el.cells
  | .st b, cs => Fits b cs
  | .nil, cs => cs = []
  | .cons a b, cs => ∃ l r, cs = l ++ r ∧ Fits a l ∧ Fits b r

def isStr (P : Program) (t : TypeId) : Bool :=
  match P.underlying t with
  | some .string => true
  | _ => false
def isBool (P : Program) (t : TypeId) : Bool :=
  match P.underlying t with
  | some .bool => true
  | _ => false
def isInt (P : Program) (t : TypeId) (k : IntKind) : Bool :=
  match P.underlying t with
  | some (.int k') => k' == k
  | _ => false
def isSl (P : Program) (t : TypeId) : Option TypeId :=
  match P.underlying t with
  | some (.slice e) => some e
  | _ => none
def isStt (P : Program) (t : TypeId) : Option (List Field) :=
  match P.underlying t with
  | some (.struct fs) => some fs.toList
  | _ => none

def shO (P : Program) : Sh → TypeId ⊕ (List Field × Nat × Nat) → Bool
  | .bool, .inl t => isBool P t
  | .int k, .inl t => isInt P t k
  | .str, .inl t => isStr P t
  | .sl sz agg e, .inl t => match isSl P t with
    | some el => P.cellsOf el == sz && (decide (1 ≤ sz) && ((agg || sz == 1) && shO P e (.inl el)))
    | none => false
  | .st b, .inl t => match isStt P t with
    | some fs => shO P b (.inr (fs, 0, P.cellsOf t))
    | none => false
  | .nil, .inr ([], off, tot) => off == tot
  | .cons a b, .inr (f :: r, off, tot) => f.offset == off && (shO P a (.inl f.type) && shO P b (.inr (r, off + P.cellsOf f.type, tot)))
  | _, _ => false

/-- The values read as the list. -/
def VRL (w : World) : List Value → List AV → Prop
  | [], [] => True
  | v :: vs, a :: as => VR (fun _ => False) w v a ∧ a.atom = true ∧ VRL w vs as
  | _, _ => False

theorem VRL.append {w : World} : ∀ {l1 l2 : List Value} {a1 a2 : List AV}, VRL w l1 a1 → VRL w l2 a2 → VRL w (l1 ++ l2) (a1 ++ a2)
  | [], _, [], _, _, h2 => h2
  | v :: vs, _, a :: as, _, h1, h2 => ⟨h1.1, h1.2.1, VRL.append h1.2.2 h2⟩
  | [], _, _ :: _, _, h1, _ => h1.elim
  | _ :: _, _, [], _, h1, _ => h1.elim

theorem VRL.len {w : World} : ∀ {l : List Value} {a : List AV}, VRL w l a → l.length = a.length
  | [], [], _ => rfl
  | v :: vs, a :: as, h => by simp [VRL.len h.2.2]
  | [], _ :: _, h => h.elim
  | _ :: _, [], h => h.elim

theorem VRL.get {w : World} : ∀ {l : List Value} {a : List AV}, VRL w l a → ∀ j, j < a.length → VR (fun _ => False) w (l.getD j undef) (a.getD j .any) ∧ (a.getD j .any).atom = true
  | [], [], _, j, hj => by simp at hj
  | v :: vs, a :: as, h, 0, _ => ⟨h.1, h.2.1⟩
  | v :: vs, a :: as, h, j + 1, hj => by simpa using VRL.get h.2.2 j (by simpa using hj)
  | [], _ :: _, h, _, _ => h.elim
  | _ :: _, [], h, _, _ => h.elim

theorem atom_cells {a : AV} (h : a.atom = true) : a.cells = [a] ∧ a.isAgg = false := by
  cases a <;> simp [AV.atom] at h <;> exact ⟨rfl, rfl⟩

theorem VRL.atoms {w : World} : ∀ {l : List Value} {a : List AV}, VRL w l a → a.all AV.atom = true
  | [], [], _ => rfl
  | v :: vs, a :: as, h => by simp [h.2.1, VRL.atoms h.2.2]
  | [], _ :: _, h => h.elim
  | _ :: _, [], h => h.elim

section
variable {H : Type} {enc : TypeId × Value → H} {P : Program} {w : World} {spare : Nat → Bool} {held : Bool}

theorem mapM_range_get {f : Nat → Option Value} {n : Nat} {l : List Value} (h : (List.range n).mapM f = some l) {i : Nat} (hi : i < n) : f i = l[i]? ∧ l.length = n := by
  have hl := mapM_some_length h
  simp only [List.length_range] at hl
  exact ⟨mapM_some_get h i i (by simp [hi]), hl⟩

/-- An argument as its type's outer form says. -/
theorem trod_fits : ∀ (sh : Sh) (q : TypeId ⊕ (List Field × Nat × Nat)) (cs : List Value), shO P sh q = true →
    (match q with
      | .inl t => ∃ n x, DataW.trod enc P w 0 spare held n t cs = some x
      | .inr (fs, off, tot) => off ≤ tot ∧ cs.length = tot ∧ ∀ f, f ∈ fs → ∃ n x, DataW.trod enc P w 0 spare held n f.type ((cs.drop f.offset).take (P.cellsOf f.type)) = some x) →
    ∃ as, Fits sh as ∧ VRL w (match q with | .inl _ => cs | .inr (_, off, _) => cs.drop off) as
  | .bool, .inl t, cs, hs, ⟨n, x, h⟩ => by
    simp only [shO, isBool] at hs
    split at hs
    · rename_i ht
      obtain ⟨b, rfl, _⟩ := DataW.trod_bool ht h
      exact ⟨[.bool b], ⟨b, rfl⟩, .bool, rfl, trivial⟩
    · cases hs
  | .int k, .inl t, cs, hs, ⟨n, x, h⟩ => by
    simp only [shO, isInt] at hs
    split at hs
    · rename_i k' ht
      have e : k' = k := by simpa using hs
      subst e
      obtain ⟨m, rfl, _, hw⟩ := DataW.trod_int ht h
      exact ⟨[.int k' m], ⟨m, rfl, hw⟩, .int, rfl, trivial⟩
    · cases hs
  | .str, .inl t, cs, hs, ⟨n, x, h⟩ => by
    simp only [shO, isStr] at hs
    split at hs
    · rename_i ht
      obtain ⟨s, rfl, _, hw⟩ := DataW.trod_string ht h
      have e : s = ⟨s.data.toList.toArray⟩ := by cases s; simp
      refine ⟨[.str s.data.toList], ⟨_, rfl, hw⟩, ?_, rfl, trivial⟩
      have : VR (fun _ => False) w (.string ⟨s.data.toList.toArray⟩) (.str s.data.toList) := .str
      rwa [← e] at this
    · cases hs
  | .st b, .inl t, cs, hs, ⟨n, x, h⟩ => by
    simp only [shO] at hs
    split at hs
    · rename_i fs ht
      simp only [isStt] at ht
      split at ht <;> try (cases ht; done)
      rename_i fs' hu
      obtain rfl := Option.some.inj ht
      obtain ⟨xs, m, rfl, _, hl, hn, hf⟩ := DataW.trod_struct hu h
      have := trod_fits b (.inr (fs'.toList, 0, P.cellsOf t)) cs hs ⟨Nat.zero_le _, hl, fun f hfm => ?_⟩
      · simpa [Fits] using this
      · obtain ⟨i, hi, he⟩ := List.getElem_of_mem hfm
        have h1 : fs'[i]? = some f := by
          rw [← Array.getElem?_toList, List.getElem?_eq_getElem hi, he]
        have h2 := hf i f h1
        have h3 : i < xs.length := by rw [hn]; simpa using hi
        rw [List.getElem?_eq_getElem h3] at h2
        exact ⟨m, _, h2⟩
    · cases hs
  | .nil, .inr ([], off, tot), cs, hs, ⟨h0, h1, h2⟩ => by
    simp only [shO, beq_iff_eq] at hs
    refine ⟨[], rfl, ?_⟩
    show VRL w (cs.drop off) []
    rw [List.drop_eq_nil_of_le (by omega)]
    trivial
  | .cons a b, .inr (f :: r, off, tot), cs, hs, ⟨h0, h1, h2⟩ => by
    simp only [shO, Bool.and_eq_true, beq_iff_eq] at hs
    obtain ⟨ho, ha, hb⟩ := hs
    obtain ⟨as1, f1, v1⟩ := trod_fits a (.inl f.type) _ ha (h2 f (by simp))
    by_cases hc : off + P.cellsOf f.type ≤ tot
    · obtain ⟨as2, f2, v2⟩ := trod_fits b (.inr (r, off + P.cellsOf f.type, tot)) cs hb ⟨hc, h1, fun g hg => h2 g (by simp [hg])⟩
      refine ⟨as1 ++ as2, ⟨_, _, rfl, f1, f2⟩, ?_⟩
      have e : cs.drop off = (cs.drop f.offset).take (P.cellsOf f.type) ++ cs.drop (off + P.cellsOf f.type) := by
        rw [ho, ← List.drop_drop, List.take_append_drop]
      show VRL w (cs.drop off) _
      rw [e]
      exact v1.append v2
    · exfalso
      have key : ∀ (sh : Sh) (fs : List Field) (o : Nat), shO P sh (.inr (fs, o, tot)) = true → o ≤ tot := by
        intro sh fs
        induction fs generalizing sh with
        | nil => intro o h; cases sh <;> simp [shO] at h; omega
        | cons f fs ih =>
          intro o h
          cases sh <;> simp [shO] at h
          have := ih _ _ h.2.2
          omega
      exact hc (key _ _ _ hb)
  | .sl sz agg e, .inl t, cs, hs, ⟨n, x, h⟩ => by
    simp only [shO] at hs
    split at hs
    · rename_i el hel
      simp only [isSl] at hel
      split at hel <;> try (cases hel; done)
      rename_i el' hu
      obtain rfl := Option.some.inj hel
      simp only [Bool.and_eq_true, beq_iff_eq, decide_eq_true_eq, Bool.or_eq_true] at hs
      obtain ⟨hsz, hpos, hag, hse⟩ := hs
      rcases DataW.trod_slice hu h with ⟨rfl, _⟩ | ⟨a, len, cap, elems, rest, m, rfl, rfl, _, _, hlc, hcm, hel, hget, _, _⟩
      · refine ⟨[.sl sz []], ⟨[], rfl, by simp, by simp⟩, ?_, rfl, trivial⟩
        exact .sl 0 0 (fun _ _ => undef) rfl (Nat.le_refl _) hpos (fun c => by simp at c) (fun i hi => by simp at hi) (fun i j hi => by simp at hi) (fun i j hi => by simp at hi)
      · have hone : ∀ i, i < len → ∃ cs' y, w.cells? 0 (a.add (i * sz)) sz = some cs' ∧ DataW.trod enc P w 0 spare held m el' cs' = some y := by
          intro i hi
          have := hget i hi
          rw [List.getElem?_eq_getElem (by omega), Option.bind_eq_some_iff, hsz] at this
          obtain ⟨cs', c1, c2⟩ := this
          exact ⟨cs', _, c1, c2⟩
        have hfit : ∀ i, ∃ cs' as, i < len → w.cells? 0 (a.add (i * sz)) sz = some cs' ∧ Fits e as ∧ VRL w cs' as := by
          intro i
          by_cases hi : i < len
          · obtain ⟨cs', y, c1, c2⟩ := hone i hi
            obtain ⟨as, f1, v1⟩ := trod_fits e (.inl el') cs' hse ⟨m, y, c2⟩
            exact ⟨cs', as, fun _ => ⟨c1, f1, v1⟩⟩
          · exact ⟨[], [], fun c => absurd c hi⟩
        obtain ⟨rd, hrd⟩ := Classical.axiomOfChoice hfit
        obtain ⟨av, hav⟩ := Classical.axiomOfChoice hrd
        have hclen : ∀ i, i < len → (rd i).length = sz ∧ ∀ j, j < sz → w.cell? ((a.add (i * sz)).add j) = some ((rd i).getD j undef) := by
          intro i hi
          have h1 := (hav i hi).1
          unfold World.cells? at h1
          split at h1
          · rename_i hb
            refine ⟨?_, fun j hj => ?_⟩
            · have := mapM_some_length h1; simpa using this
            · obtain ⟨h2, h3⟩ := mapM_range_get h1 hj
              rw [h2, List.getD_eq_getElem?_getD, List.getElem?_eq_getElem (by omega)]
              rfl
          · cases h1
        have hspot : 0 < len → a = ⟨a.block, a.off, none⟩ := by
          intro h0
          have h1 := (hclen 0 h0).2 0 (by omega)
          simp only [Nat.zero_mul, Addr.add, if_true] at h1
          unfold World.cell? at h1
          split at h1
          · split at h1
            · cases h1
            · rename_i hsp
              obtain ⟨b, o, s⟩ := a
              cases s
              · rfl
              · simp at hsp
          · cases h1
        let elv : Nat → AV := fun i => if agg = true then .agg (av i) else (av i).getD 0 .any
        have helc : ∀ i, i < len → (elv i).cells = av i ∧ (elv i).isAgg = agg ∧ (av i).length = sz := by
          intro i hi
          obtain ⟨_, f1, v1⟩ := hav i hi
          have hl : (av i).length = sz := by rw [← v1.len]; exact (hclen i hi).1
          by_cases hg : agg = true
          · simp only [elv]; rw [if_pos hg]; exact ⟨rfl, hg.symm, hl⟩
          · have h1 : sz = 1 := by
              rcases hag with c | c
              · exact absurd c hg
              · exact c
            simp only [elv]; rw [if_neg hg]
            match hA : av i, hl with
            | [y], _ =>
              have hat := v1.atoms
              rw [hA] at hat
              have := atom_cells (a := y) (by simpa using hat)
              exact ⟨this.1, by simpa using this.2.trans (by cases agg <;> simp_all), by simp [h1]⟩
            | [], hl => simp at hl; omega
            | _ :: _ :: _, hl => simp at hl; omega
        refine ⟨[.sl sz ((List.range len).map elv)], ⟨_, rfl, by simp; omega, fun el hel => ?_⟩, ?_, rfl, trivial⟩
        · obtain ⟨i, hi, rfl⟩ := List.mem_map.1 hel
          have hi' : i < len := by simpa using hi
          obtain ⟨c1, c2, _⟩ := helc i hi'
          exact ⟨c2, by rw [c1]; exact (hav i hi').2.1⟩
        · have hgD : ∀ i, i < len → ((List.range len).map elv).getD i .any = elv i := by
            intro i hi
            simp [List.getD_eq_getElem?_getD, List.getElem?_map, hi]
          refine .sl a.block a.off (fun i j => (rd i).getD j undef) (by simp) hlc hpos (fun c => ⟨by rw [← hspot (by simpa using c)], fun c => c⟩) (fun i hi => ?_) (fun i j hi hj => ?_) (fun i j hi hj => ?_)
          · have hi' : i < len := by simpa using hi
            rw [hgD i hi']
            obtain ⟨c1, _, c3⟩ := helc i hi'
            refine ⟨by rw [c1, c3], ?_⟩
            unfold AV.atoms; rw [c1]; exact (hav i hi').2.2.atoms
          · have hi' : i < len := by simpa using hi
            have h1 := (hclen i hi').2 j hj
            have hs := hspot (by omega)
            have : ((a.add (i * sz)).add j) = ⟨a.block, a.off + (i * sz + j), none⟩ := by
              rw [hs]
              unfold Addr.add
              by_cases e1 : i * sz = 0 <;> by_cases e2 : j = 0 <;> simp [e1, e2]
              omega
            rw [← this]; exact h1
          · have hi' : i < len := by simpa using hi
            rw [hgD i hi']
            obtain ⟨c1, _, c3⟩ := helc i hi'
            rw [c1]
            exact ((hav i hi').2.2.get j (by omega)).1
    · cases hs
  | .bool, .inr _, _, hs, _ => by simp [shO] at hs
  | .int _, .inr _, _, hs, _ => by simp [shO] at hs
  | .str, .inr _, _, hs, _ => by simp [shO] at hs
  | .sl _ _ _, .inr _, _, hs, _ => by simp [shO] at hs
  | .st _, .inr _, _, hs, _ => by simp [shO] at hs
  | .nil, .inl _, _, hs, _ => by simp [shO] at hs
  | .cons _ _, .inl _, _, hs, _ => by simp [shO] at hs
  | .nil, .inr (_ :: _, _, _), _, hs, _ => by simp [shO] at hs
  | .cons _ _, .inr ([], _, _), _, hs, _ => by simp [shO] at hs

def isTop : Sh → Bool
  | .st _ => true
  | _ => false

/-- An argument of a law. -/
theorem arg_fits {r : Reach} {b0 : Nat} {t : TypeId} {v : Value} {d : DataW H} {ps : List MemPlace} {sh : Sh} (hs : shO P sh (.inl t) = true) (hval : Value.okWide P w r b0 t v) (h : DataW.Trod enc P w 0 spare held t v d ps) :
    ∃ a : AV, Fits sh a.cells ∧ a.isAgg = isTop sh ∧ VR (fun _ => False) w v a := by
  obtain ⟨n, hn⟩ := h
  obtain ⟨as, f1, v1⟩ := trod_fits sh (.inl t) _ hs ⟨n, _, hn⟩
  have one : isTop sh = false → v.cells = #[v] → ∃ a : AV, Fits sh a.cells ∧ a.isAgg = isTop sh ∧ VR (fun _ => False) w v a := by
    intro ht hv
    rw [hv] at v1
    match as, v1 with
    | [a], v1 =>
      obtain ⟨c1, c2⟩ := atom_cells v1.2.1
      exact ⟨a, by rw [c1]; exact f1, by rw [c2, ht], v1.1⟩
  cases sh
  case bool =>
    refine one rfl ?_
    simp only [shO, isBool] at hs
    split at hs <;> try (cases hs; done)
    rename_i hu
    obtain ⟨b, rfl⟩ := okWide_bool hu hval; rfl
  case int k =>
    refine one rfl ?_
    simp only [shO, isInt] at hs
    split at hs <;> try (cases hs; done)
    rename_i hu
    obtain ⟨b, rfl⟩ := okWide_int hu hval; rfl
  case str =>
    refine one rfl ?_
    simp only [shO, isStr] at hs
    split at hs <;> try (cases hs; done)
    rename_i hu
    obtain ⟨b, rfl⟩ := okWide_string hu hval; rfl
  case sl sz agg e =>
    refine one rfl ?_
    simp only [shO] at hs
    split at hs <;> try (cases hs; done)
    rename_i el hel
    simp only [isSl] at hel
    split at hel <;> try (cases hel; done)
    rename_i hu
    obtain ⟨b, l, c, rfl⟩ := okWide_slice hu hval; rfl
  case st b =>
    simp only [shO] at hs
    split at hs <;> try (cases hs; done)
    rename_i fs hfs
    simp only [isStt] at hfs
    split at hfs <;> try (cases hfs; done)
    rename_i hu
    obtain ⟨cs, rfl, _⟩ := okWide_struct hu hval
    refine ⟨.agg as, f1, rfl, .agg ?_ (fun j hj => (v1.get j hj).2) fun j hj => ?_⟩
    · have := v1.len; simpa [Value.cells] using this
    · have := (v1.get j hj).1
      rwa [show (Value.agg cs).cells.toList.getD j undef = cs.getD j undef by simp [Value.cells, List.getD_eq_getElem?_getD, Array.getD_eq_getD_getElem?]] at this
  case nil => simp [shO] at hs
  case cons => simp [shO] at hs

end

/-! ### Typed values -/

def R64 (n : Int) : Prop := -9223372036854775808 ≤ n ∧ n ≤ 9223372036854775807

theorem wf_R64 {n : Int} (h : (Lit.int .i64 n).wf = true) : R64 n := by
  simp [Lit.wf, IntKind.min, IntKind.max, IntKind.signed, IntKind.bits] at h
  unfold R64; omega
theorem wf_u8 {n : Int} (h : (Lit.int .u8 n).wf = true) : 0 ≤ n ∧ n < 256 := by
  simp [Lit.wf, IntKind.min, IntKind.max, IntKind.signed, IntKind.bits] at h
  omega

theorem av_ext {a b : AV} (h1 : a.cells = b.cells) (h2 : a.isAgg = b.isAgg) : a = b := by
  cases a <;> cases b <;> simp_all [AV.cells, AV.isAgg]

/-- Values of a type that the outer form and a test describe. -/
structure Ty (α : Type) where
  sh : Sh
  f : α → AV
  wf : α → Prop
  top : ∀ x, (f x).isAgg = isTop sh
  fits : ∀ cs, Fits sh cs → ∃ x, cs = (f x).cells ∧ wf x

theorem Ty.of {α : Type} (T : Ty α) {a : AV} (h : Fits T.sh a.cells) (ht : a.isAgg = isTop T.sh) : ∃ x, a = T.f x ∧ T.wf x := by
  obtain ⟨x, e, hw⟩ := T.fits _ h
  exact ⟨x, av_ext e (by rw [ht, T.top]), hw⟩

def tyInt : Ty Int := ⟨.int .i64, fun n => .int .i64 n, R64, fun _ => rfl, fun cs ⟨n, e, h⟩ => ⟨n, e, wf_R64 h⟩⟩
def tyBool : Ty Bool := ⟨.bool, .bool, fun _ => True, fun _ => rfl, fun cs ⟨n, e⟩ => ⟨n, e, trivial⟩⟩
def tyStr : Ty (List UInt8) := ⟨.str, .str, fun l => l.length ≤ maxLen, fun _ => rfl, fun cs ⟨n, e, h⟩ => ⟨n, e, h⟩⟩
def tyByte : Ty UInt8 := ⟨.int .u8, byteAV, fun _ => True, fun _ => rfl, fun cs ⟨n, e, h⟩ => ⟨UInt8.ofNat n.toNat, by
  obtain ⟨h1, h2⟩ := wf_u8 h
  have : (((UInt8.ofNat n.toNat).toNat : Nat) : Int) = n := by rw [UInt8.toNat_ofNat']; omega
  subst e
  show [AV.int .u8 n] = [AV.int .u8 _]
  rw [this], trivial⟩⟩

theorem els_fits {α : Type} (T : Ty α) : ∀ els : List AV, (∀ el ∈ els, el.isAgg = isTop T.sh ∧ Fits T.sh el.cells) → ∃ xs : List α, els = xs.map T.f ∧ ∀ x ∈ xs, T.wf x
  | [], _ => ⟨[], rfl, by simp⟩
  | a :: r, h => by
    obtain ⟨x, e, hw⟩ := T.of (h a (by simp)).2 (h a (by simp)).1
    obtain ⟨xs, e2, hw2⟩ := els_fits T r fun el hel => h el (by simp [hel])
    exact ⟨x :: xs, by simp [e, e2], by simpa using ⟨hw, hw2⟩⟩

def tySl {α : Type} (sz : Nat) (T : Ty α) : Ty (List α) := ⟨.sl sz (isTop T.sh) T.sh, fun xs => .sl sz (xs.map T.f), fun xs => xs.length ≤ maxLen ∧ ∀ x ∈ xs, T.wf x, fun _ => rfl, fun cs ⟨els, e, hl, h⟩ => by
  obtain ⟨xs, e2, hw⟩ := els_fits T els h
  exact ⟨xs, by rw [e, e2]; rfl, by rw [e2] at hl; simpa using hl, hw⟩⟩


/-- An argument of a law, typed. -/
theorem arg_ty {α : Type} (T : Ty α) {H : Type} {enc : TypeId × Value → H} {P : Program} {w : World} {spare : Nat → Bool} {held : Bool} {r : Reach} {b0 : Nat} {t : TypeId} {v : Value} {d : DataW H} {ps : List MemPlace}
    (hs : shO P T.sh (.inl t) = true) (hval : Value.okWide P w r b0 t v) (h : DataW.Trod enc P w 0 spare held t v d ps) : ∃ x, VR (fun _ => False) w v (T.f x) ∧ T.wf x := by
  obtain ⟨a, f1, f2, f3⟩ := arg_fits hs hval h
  obtain ⟨x, e, hw⟩ := T.of f1 f2
  exact ⟨x, e ▸ f3, hw⟩

theorem Same.sameAt {w w' : World} (h : Same (fun _ => False) w w') {p : MemPlace} (hp : p.block < w.heap.size) : w.sameAt w' p := by
  have hb := h.block p.block hp fun c => c
  cases p with
  | cell b off => simp only [MemPlace.block] at hb; simp only [World.sameAt, World.cell?, hb]
  | map b => simp only [MemPlace.block] at hb; simp only [World.sameAt, hb]

end Go.Proofs.YtbobhejdijcofaaGreatDoor
