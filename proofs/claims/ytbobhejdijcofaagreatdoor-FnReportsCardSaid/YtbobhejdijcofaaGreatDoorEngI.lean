/- Bytes and strings, structs and slices built from their parts. No condition. -/
import Derived.Test.YtbobhejdijcofaaGreatDoorEngH
namespace Go.Proofs.YtbobhejdijcofaaGreatDoor
open Go Go.RowKit
set_option linter.unusedSimpArgs false
set_option linter.unusedVariables false

section
variable {F : Nat → Prop} {g : Gh} {w : World} {tmps : Array Value} {ds : List Deferred} {vm ss : List Nat} {s : St} {P : Program} {o : Oper} {key : Nat}

/-! ### Bytes to a string -/

def cB2s (P : Program) (vm ss : List Nat) (x : Src) : Op → Bool
  | .convert s d y => chkSrc vm ss y x && (strT P d && (match slT P s with
    | some e => intT P e == some .u8
    | none => false))
  | _ => false

theorem byte_val {S : Nat → Prop} {v : Value} {a : AV} (ha : isByte a = true) (h : VR S w v a) : ∃ n, a = .int .u8 n ∧ v = .int .u8 n := by
  cases a <;> try (simp [isByte] at ha; done)
  rename_i k n
  cases k <;> simp [isByte] at ha
  cases h; exact ⟨n, rfl, rfl⟩

theorem str_run (P : Program) {els : List AV} (hb : els.all isByte = true) {b off cap : Nat} {r : Nat → Value} {S : Nat → Prop} (hw : ∀ i, i < els.length → w.cell? ⟨b, off + i, none⟩ = some (r i)) (hr : ∀ i, i < els.length → VR S w (r i) (els.getD i .any)) :
    (Conv.bytesToString (.slice (some ⟨b, off, none⟩) els.length cap)).run P w = .ok (.string ⟨(els.map byteOf).toArray⟩) w := by
  have hall : ∀ i, i < els.length → ∃ n, els.getD i .any = .int .u8 n ∧ r i = .int .u8 n := fun i hi => by
    simp only [List.all_eq_true] at hb
    exact byte_val (hb _ (mem_getD hi)) (hr i hi)
  have hns : ∃ ns : List Int, els = ns.map (AV.int .u8) := by
    clear hw hr
    induction els with
    | nil => exact ⟨[], rfl⟩
    | cons a t ih =>
      simp only [List.all_cons, Bool.and_eq_true] at hb
      obtain ⟨n, hn⟩ : ∃ n, a = AV.int .u8 n := by
        cases a <;> try (simp [isByte] at hb; done)
        rename_i k n; cases k <;> simp [isByte] at hb; exact ⟨n, rfl⟩
      have hx : ∃ ns : List Int, t = ns.map (AV.int .u8) := by
        have : ∀ l : List AV, l.all isByte = true → ∃ ns : List Int, l = ns.map (AV.int .u8) := by
          intro l
          induction l with
          | nil => intro _; exact ⟨[], rfl⟩
          | cons c l ih2 =>
            intro h2
            simp only [List.all_cons, Bool.and_eq_true] at h2
            obtain ⟨m, hm⟩ : ∃ n, c = AV.int .u8 n := by
              cases c <;> try (simp [isByte] at h2; done)
              rename_i k n; cases k <;> simp [isByte] at h2; exact ⟨n, rfl⟩
            obtain ⟨ms, hms⟩ := ih2 h2.2
            exact ⟨m :: ms, by rw [hm, hms]; rfl⟩
        exact this t hb.2
      obtain ⟨ns, hns⟩ := hx
      exact ⟨n :: ns, by rw [hn, hns]; rfl⟩
  obtain ⟨ns, rfl⟩ := hns
  have hl := run_loadCells (P := P) w ⟨b, off, none⟩ ns.length r (fun j hj => by rw [add_plain]; exact hw j (by simpa using hj))
  have hrn : ((List.range ns.length).map r) = ns.map (Value.int .u8) := by
    apply List.ext_getElem
    · simp
    · intro i h1 h2
      have hi : i < ns.length := by simpa using h1
      obtain ⟨n, e1, e2⟩ := hall i (by simpa using hi)
      simp only [List.getElem_map, List.getElem_range, e2]
      rw [List.getD_eq_getElem?_getD, List.getElem?_map, List.getElem?_eq_getElem hi] at e1
      simp only [Option.map_some, Option.getD_some, AV.int.injEq, true_and] at e1
      rw [e1]
  rw [hrn] at hl
  have := run_bytesToString (P := P) w ⟨b, off, none⟩ ns.length cap ns hl
  rw [List.length_map, this, foldl_push_bytes]
  congr 2
  apply ByteArray.ext
  simp [byteOf]

theorem s_b2s (h : FR F g w tmps vm ss s) {x : Src} (hc : cB2s P vm ss x o.op = true) (hok : (b2sA s.ob (rd s x)).ok = true) :
    StillPost (SetOf F g s.ob) w g s.ob key (b2sA s.ob (rd s x)) ((execOp ({ tmps := tmps, defers := ds } : Act).eval o).run P w) := by
  unfold cB2s at hc
  split at hc
  · rename_i sT dT y he
    simp only [Bool.and_eq_true] at hc
    obtain ⟨hs, hd, hty⟩ := hc
    split at hty
    · rename_i e hsl
      simp only [beq_iff_eq] at hty
      have hu := slT_eq hsl
      have hue := intT_eq hty
      have hud := strT_eq hd
      have hconv : ∀ v : Value, (∃ a l c, v = .slice a l c) → (convert sT dT v).run P w = (Conv.bytesToString v).run P w := by
        rintro v ⟨a, l, c, rfl⟩
        cases a <;> simp [convert, run_underlying hu, run_underlying hud, run_underlying hue]
      have hv := h.src (ds := ds) hs
      revert hok
      generalize rd s x = a at hv
      intro hok
      cases a <;> simp only [b2sA, bad] at hok <;> try (cases hok; done)
      case nilsl =>
        have hev := sr_nil hv
        exact .val (v := .string ⟨([] : List UInt8).toArray⟩) (by simp [execOp, he, hev, hconv, Conv.bytesToString]; rfl) rfl (VR.toSR .str)
      case sl sz els =>
        simp only [SR, SR1] at hv
        generalize hev : ({ tmps := tmps, defers := ds } : Act).eval y = v at hv
        cases hv with
        | @sl ad n cap _ _ b off r hn hcap hsz0 ha hcl hw hr =>
          simp only [b2sA, strOf, when] at hok ⊢
          subst hn
          by_cases hp : 0 < els.length
          · obtain ⟨rfl, hns⟩ := ha hp
            have hone : ∀ i, i < els.length → (els.getD i .any).cells = [els.getD i .any] := fun i hi => by
              simp only [List.all_eq_true] at hok
              have := hok _ (mem_getD hi)
              revert this
              generalize els.getD i .any = q
              intro this
              cases q <;> first | rfl | (simp [isByte] at this)
            have hsz1 : sz = 1 := by have := (hcl 0 hp).1; rw [hone 0 hp] at this; simpa using this.symm
            subst hsz1
            have hrun := str_run (w := w) P hok (cap := cap) (r := fun i => r i 0) (S := SetOf F g s.ob) (fun i hi => by have := hw i 0 hi (by omega); simpa using this) (fun i hi => by have := hr i 0 hi (by omega); rw [hone i hi] at this; simpa using this)
            exact .val (v := .string ⟨(els.map byteOf).toArray⟩) (by simp [execOp, he, hev, hconv, hrun]) rfl (VR.toSR .str)
          · have h0 : els = [] := List.length_eq_zero_iff.1 (by omega)
            subst h0
            refine .val (v := .string ⟨([] : List UInt8).toArray⟩) ?_ rfl (VR.toSR .str)
            cases ad <;> simp [execOp, he, hev, hconv, Conv.bytesToString, loadCells, loadCellsFrom] <;> rfl
      case own k =>
        obtain ⟨hm, ho, hev⟩ := hv
        simp only [b2sA, ho, strHm, strOf, when] at hok ⊢
        have hh := h.home k hm ho
        rcases hev with hev | ⟨hz, hev⟩
        rotate_left
        · rw [h.nil_els ho hz]
          refine .val (v := .string ⟨([] : List UInt8).toArray⟩) ?_ rfl (VR.toSR .str)
          simp [execOp, he, hev, hconv, Conv.bytesToString, loadCells, loadCellsFrom]
          rfl
        obtain ⟨r, hcell⟩ := hh.cell
        by_cases hp : 0 < hm.els.length
        · have hone : ∀ i, i < hm.els.length → (hm.els.getD i .any).cells = [hm.els.getD i .any] := fun i hi => by
            simp only [List.all_eq_true] at hok
            have := hok _ (mem_getD hi)
            revert this
            generalize hm.els.getD i .any = q
            intro this
            cases q <;> first | rfl | (simp [isByte] at this)
          have hsz1 : hm.sz = 1 := by have := (hh.cells 0 hp).1; rw [hone 0 hp] at this; simpa using this.symm
          rw [hsz1] at hcell
          have hrun := str_run (w := w) P hok (b := g.β k) (off := 0) (cap := g.cap k) (r := fun i => r i 0) (S := SetOf F g s.ob) (fun i hi => by have := (hcell i 0 hi (by omega)).1; simpa using this) (fun i hi => by have := (hcell i 0 hi (by omega)).2; rw [hone i hi] at this; simpa using this)
          exact .val (v := .string ⟨(hm.els.map byteOf).toArray⟩) (by simp [execOp, he, hev, hconv, hrun]) rfl (VR.toSR .str)
        · have h0 : hm.els = [] := List.length_eq_zero_iff.1 (by omega)
          rw [h0] at hev ⊢
          refine .val (v := .string ⟨([] : List UInt8).toArray⟩) ?_ rfl (VR.toSR .str)
          simp [execOp, he, hev, hconv, Conv.bytesToString, loadCells, loadCellsFrom]
          rfl
    · cases hty
  · cases hc

/-! ### A string to bytes -/

def cS2b (P : Program) (vm ss : List Nat) (x : Src) : Op → Bool
  | .convert s d y => chkSrc vm ss y x && (strT P s && (match slT P d with
    | some e => intT P e == some .u8
    | none => false))
  | _ => false

theorem s_s2b (h : FR F g w tmps vm ss s) {x : Src} (hc : cS2b P vm ss x o.op = true) (hok : (s2bA (keyOf key) (rd s x)).ok = true) :
    StillPost (SetOf F g s.ob) w g s.ob key (s2bA (keyOf key) (rd s x)) ((execOp ({ tmps := tmps, defers := ds } : Act).eval o).run P w) := by
  unfold cS2b at hc
  split at hc
  · rename_i sT dT y he
    simp only [Bool.and_eq_true] at hc
    obtain ⟨hs, hst, hty⟩ := hc
    split at hty
    · rename_i e hsl
      simp only [beq_iff_eq] at hty
      have hrun := run_bytes_of_string (P := P) w sT dT e
      have hv := h.src (ds := ds) hs
      revert hok
      generalize rd s x = a at hv
      intro hok
      cases a <;> simp only [s2bA, bad] at hok <;> try (cases hok; done)
      case str l =>
        have hev := sr_str hv
        have hr := hrun ⟨l.toArray⟩ (strT_eq hst) (slT_eq hsl) (intT_eq hty)
        simp only [s2bA]
        generalize hcap : grownCap w (⟨l.toArray⟩ : ByteArray).size 0 e = cap at hr
        have hle : l.length ≤ cap := by
          have : (⟨l.toArray⟩ : ByteArray).size ≤ cap := by rw [← hcap]; unfold grownCap; simp [Question.cut]
          rwa [size_mk] at this
        have hbs : (bytesRow ⟨l.toArray⟩ cap).size = cap := by
          simp [bytesRow, size_mk]; omega
        refine ⟨.slice (some ⟨w.heap.size, 0, none⟩) l.length cap, _, by simp [execOp, he, hev, hr, size_mk]; rfl, ?_, .inr ⟨_, _, w.heap.size, cap, rfl, by simp [keyOf], Nat.le_refl _, fun S' hS => ?_, .inl ⟨rfl, .inl (by simp)⟩⟩⟩
        · exact (Same.drew _ _).trans (Same.alloc _ _ _)
        · refine ⟨Nat.le_refl _, by simpa using hle, fun i hi => ?_, fun _ => ⟨bytesRow ⟨l.toArray⟩ cap, e, _, heap_alloc_new _ _, .inr ⟨rfl, Nat.le_refl _⟩, by rw [hbs, Nat.mul_one], fun i j hi hj => ?_⟩⟩
          · have hi' : i < l.length := by simpa using hi
            have : (l.map byteAV).getD i .any = byteAV (l.getD i 0) := by
              rw [List.getD_eq_getElem?_getD, List.getElem?_map, List.getElem?_eq_getElem hi', List.getD_eq_getElem?_getD, List.getElem?_eq_getElem hi']; rfl
            rw [this]; exact ⟨rfl, rfl⟩
          · have hi' : i < l.length := by simpa using hi
            have hj1 : j < 1 := hj
            have hj0 : j = 0 := by omega
            subst hj0
            have : (l.map byteAV).getD i .any = byteAV (l.getD i 0) := by
              rw [List.getD_eq_getElem?_getD, List.getElem?_map, List.getElem?_eq_getElem hi', List.getD_eq_getElem?_getD, List.getElem?_eq_getElem hi']; rfl
            rw [this]
            have hb := bytesRow_at ⟨l.toArray⟩ cap i (by simpa using hi')
            have hg : (bytesRow ⟨l.toArray⟩ cap).getD (i * 1 + 0) undef = .int .u8 ((l.getD i 0).toNat : Int) := by
              rw [Array.getD_eq_getD_getElem?, Nat.mul_one, Nat.add_zero, hb, List.getD_eq_getElem?_getD, List.getElem?_eq_getElem hi']; rfl
            rw [hg]
            exact .int
    · cases hty
  · cases hc

/-! ### Parts -/

theorem putCells_len : ∀ (xs : List AV) (as : List AV) (off : Nat), (putCells as off xs).length = as.length
  | [], as, off => rfl
  | x :: r, as, off => by simp only [putCells]; rw [putCells_len r]; simp

theorem putCells_get : ∀ (xs : List AV) (as : List AV) (off x : Nat), (putCells as off xs).getD x .any = if off ≤ x ∧ x < off + xs.length ∧ x < as.length then xs.getD (x - off) .any else as.getD x .any
  | [], as, off, x => by simp only [putCells, List.length_nil]; rw [if_neg (by omega)]
  | q :: r, as, off, x => by
    simp only [putCells]
    rw [putCells_get r]
    simp only [List.length_set, List.length_cons]
    by_cases h1 : off + 1 ≤ x ∧ x < off + 1 + r.length ∧ x < as.length
    · rw [if_pos h1, if_pos (by omega)]
      rw [show x - off = (x - (off + 1)) + 1 by omega, List.getD_cons_succ]
    · rw [if_neg h1]
      by_cases h2 : off = x
      · subst h2
        by_cases h3 : off < as.length
        · rw [if_pos (by omega), Nat.sub_self, List.getD_cons_zero, List.getD_eq_getElem?_getD, List.getElem?_set_self h3]; rfl
        · rw [if_neg (by omega), List.getD_eq_getElem?_getD, List.getD_eq_getElem?_getD, List.getElem?_eq_none (by simp; omega), List.getElem?_eq_none (by omega)]
      · rw [if_neg (by omega), List.getD_eq_getElem?_getD, List.getElem?_set_ne h2, List.getD_eq_getElem?_getD]

theorem fold_get : ∀ (l : List Value) (k off : Nat) (cs : Array Value), ((l.zipIdx k).foldl (fun cs p => cs.setIfInBounds (off + p.2) p.1) cs).size = cs.size ∧
    ∀ x, ((l.zipIdx k).foldl (fun cs p => cs.setIfInBounds (off + p.2) p.1) cs).getD x undef = if off + k ≤ x ∧ x < off + k + l.length ∧ x < cs.size then l.getD (x - (off + k)) undef else cs.getD x undef
  | [], k, off, cs => ⟨rfl, fun x => by simp only [List.zipIdx_nil, List.foldl_nil, List.length_nil]; rw [if_neg (by omega)]⟩
  | v :: l, k, off, cs => by
    have ih := fold_get l (k + 1) off (cs.setIfInBounds (off + k) v)
    refine ⟨by simp only [List.zipIdx_cons, List.foldl_cons]; rw [ih.1]; simp, fun x => ?_⟩
    simp only [List.zipIdx_cons, List.foldl_cons]
    rw [ih.2 x]
    simp only [Array.size_setIfInBounds, List.length_cons]
    by_cases h1 : off + (k + 1) ≤ x ∧ x < off + (k + 1) + l.length ∧ x < cs.size
    · rw [if_pos h1, if_pos (by omega), show x - (off + k) = (x - (off + (k + 1))) + 1 by omega, List.getD_cons_succ]
    · rw [if_neg h1]
      by_cases h2 : off + k = x
      · subst h2
        by_cases h3 : off + k < cs.size
        · rw [if_pos (by omega), Nat.sub_self, List.getD_cons_zero, getD_setEq h3]
        · rw [if_neg (by omega), Array.getD_eq_getD_getElem?, Array.getD_eq_getD_getElem?, Array.getElem?_eq_none (by simp; omega), Array.getElem?_eq_none (by omega)]
      · rw [if_neg (by omega), getD_setNe h2]

theorem zipIdx_foldl (cs0 : Array Value) (cs : Array Value) (off : Nat) : cs0.zipIdx.foldl (fun cs (c, j) => cs.setIfInBounds (off + j) c) cs = (cs0.toList.zipIdx 0).foldl (fun cs p => cs.setIfInBounds (off + p.2) p.1) cs := by
  rw [← Array.foldl_toList, Array.toList_zipIdx]

/-- Cells read as a list says. -/
structure RelC (S : Nat → Prop) (w : World) (cs : Array Value) (as : List AV) : Prop where
  n : cs.size = as.length
  at_ : ∀ j, j < as.length → (as.getD j .any).atom = true
  r : ∀ j, j < as.length → VR S w (cs.getD j undef) (as.getD j .any)

theorem RelC.put {S : Nat → Prop} {cs : Array Value} {as : List AV} (h : RelC S w cs as) {v : Value} {a : AV} (hv : VR S w v a) (ha : a.atoms = true) {off : Nat} (hle : off + a.cells.length ≤ as.length) :
    RelC S w (v.cells.zipIdx.foldl (fun cs (c, j) => cs.setIfInBounds (off + j) c) cs) (putCells as off a.cells) := by
  have hc := hv.cells ha
  have hf := fold_get v.cells.toList 0 off cs
  rw [zipIdx_foldl]
  refine ⟨by rw [hf.1, putCells_len, h.n], fun j hj => ?_, fun j hj => ?_⟩
  · rw [putCells_len] at hj
    rw [putCells_get]
    split
    · exact atoms_cells ha (by omega)
    · exact h.at_ j hj
  · rw [putCells_len] at hj
    rw [putCells_get, hf.2 j]
    simp only [Array.length_toList, hc.1, Nat.add_zero, h.n]
    split
    · rw [getD_toList]; exact hc.2 _ (by omega)
    · exact h.r j hj

theorem mapM_run (P : Program) (w : World) {α β : Type} (f : α → Sem β) (q : α → β) : ∀ (l : List α), (∀ x, x ∈ l → (f x).run P w = .ok (q x) w) → (l.mapM f).run P w = .ok (l.map q) w
  | [], _ => by simp
  | x :: l, h => by
    rw [List.mapM_cons, Sem.run_bind, h x (by simp)]
    simp only [Result.andThen_ok, Sem.run_bind, mapM_run P w f q l (fun y hy => h y (by simp [hy])), Sem.run_pure, List.map_cons]

theorem arr_mapM_run (P : Program) (w : World) {α β : Type} (f : α → Sem β) (q : α → β) (xs : Array α) (h : ∀ x, x ∈ xs → (f x).run P w = .ok (q x) w) : (xs.mapM f).run P w = .ok (xs.map q) w := by
  rw [Array.mapM_eq_mapM_toList, Sem.run_map, mapM_run P w f q xs.toList (fun x hx => h x (by simpa using hx))]
  cases xs; simp

def chkParts (P : Program) (vm ss : List Nat) (fs : Array Field) : List (Nat × Operand) → List (Nat × Nat × Src) → Bool
  | [], [] => true
  | p :: r, q :: t => chkSrc vm ss p.2 q.2.2 && ((match fs[p.1]? with
      | some f => f.offset == q.1 && szT P f.type == some q.2.1
      | none => false) && chkParts P vm ss fs r t)
  | _, _ => false

def cBuild (P : Program) (vm ss : List Nat) (z : List AV) (ps : List (Nat × Nat × Src)) : Op → Bool
  | .build t parts => (match P.underlying t with
    | some (.struct fs) => fs.toList.all (fun f => (szT P f.type).isSome) && ((match zeT P t with
      | some (.agg cs) => eqas cs.toList z
      | _ => false) && chkParts P vm ss fs parts.toList ps)
    | _ => false)
  | _ => false

theorem fill_run (h : FR F g w tmps vm ss s) (fs : Array Field) (hsome : ∀ f, f ∈ fs → (szT P f.type).isSome = true) : ∀ (parts : List (Nat × Operand)) (ps : List (Nat × Nat × Src)) (cs : Array Value) (z : List AV),
    chkParts P vm ss fs parts ps = true → fillOk z.length (ps.map fun p => (p.1, p.2.1, rd s p.2.2)) = true → RelC (SetOf F g s.ob) w cs z →
    ∃ cs', Instr.fill (((fs.map fun f => (f.offset, (szT P f.type).getD 0)))[·]?) cs (parts.map fun p => (p.1, ({ tmps := tmps, defers := ds } : Act).eval p.2)) = some cs' ∧ RelC (SetOf F g s.ob) w cs' (fillP z (ps.map fun p => (p.1, p.2.1, rd s p.2.2)))
  | [], [], cs, z, _, _, hr => ⟨cs, rfl, hr⟩
  | [], _ :: _, _, _, hc, _, _ => by simp [chkParts] at hc
  | _ :: _, [], _, _, hc, _, _ => by simp [chkParts] at hc
  | p :: r, q :: t, cs, z, hc, hok, hr => by
    simp only [chkParts, Bool.and_eq_true] at hc
    obtain ⟨hs, hf, hrest⟩ := hc
    simp only [List.map_cons, fillOk, Bool.and_eq_true, beq_iff_eq, decide_eq_true_eq] at hok
    obtain ⟨hl, hle, hat, hok⟩ := hok
    split at hf
    · rename_i f hfs
      simp only [Bool.and_eq_true, beq_iff_eq] at hf
      have hv := (h.src (ds := ds) hs).atoms hat
      have hc2 := hv.cells hat
      have hput := hr.put hv hat (off := q.1) (by omega)
      have hz : (putCells z q.1 (rd s q.2.2).cells).length = z.length := putCells_len _ _ _
      obtain ⟨cs', e, hr'⟩ := fill_run h fs hsome r t _ _ hrest (by rw [hz]; exact hok) hput
      refine ⟨cs', ?_, by simp only [List.map_cons, fillP]; exact hr'⟩
      have hpl : (fs.map fun f => (f.offset, (szT P f.type).getD 0))[p.1]? = some (q.1, q.2.1) := by rw [Array.getElem?_map, hfs]; simp [hf.1, hf.2]
      rw [List.map_cons, Instr.fill]
      simp only [hpl]
      have k0 := hf.1
      have k1 : (({ tmps := tmps, defers := ds } : Act).eval p.2).cells.size = q.2.1 := by rw [hc2.1, hl]
      have k2 : q.1 + (({ tmps := tmps, defers := ds } : Act).eval p.2).cells.size ≤ cs.size := by rw [k1, hr.n]; exact hle
      rw [if_neg (by simp only [Bool.or_eq_true, decide_eq_true_eq]; omega)]
      exact e
    · cases hf

theorem s_build (h : FR F g w tmps vm ss s) {z : List AV} {ps : List (Nat × Nat × Src)} (hc : cBuild P vm ss z ps o.op = true) (hok : fillOk z.length (ps.map fun p => (p.1, p.2.1, rd s p.2.2)) = true) :
    StillPost (SetOf F g s.ob) w g s.ob key (when (fillOk z.length (ps.map fun p => (p.1, p.2.1, rd s p.2.2))) (.agg (fillP z (ps.map fun p => (p.1, p.2.1, rd s p.2.2))))) ((execOp ({ tmps := tmps, defers := ds } : Act).eval o).run P w) := by
  unfold cBuild at hc
  split at hc
  · rename_i t parts he
    split at hc
    · rename_i fs hu
      simp only [Bool.and_eq_true, List.all_eq_true] at hc
      obtain ⟨hsome, hz, hp⟩ := hc
      split at hz
      · rename_i cs hze
        have hrel : RelC (SetOf F g s.ob) w cs z := ⟨by simpa using eqas_len _ _ hz, fun j hj => (eqas_get _ _ j hz hj).2, fun j hj => by rw [← getD_toList]; exact eqa_VR (eqas_get _ _ j hz hj).1⟩
        obtain ⟨cs', e, hr⟩ := fill_run (ds := ds) h fs (fun f hf => hsome f (by simpa using hf)) parts.toList ps cs z hp hok hrel
        have hpl := arr_mapM_run P w (fun f : Field => (do pure (f.offset, ← sizeOf f.type) : Sem (Nat × Nat))) (fun f => (f.offset, (szT P f.type).getD 0)) fs (fun f hf => by
          have := hsome f (by simpa using hf)
          cases hs : szT P f.type with
          | none => rw [hs] at this; cases this
          | some n => simp [run_szT hs])
        refine .val (v := .agg cs') ?_ rfl (VR.toSR (.agg hr.n hr.at_ hr.r))
        have hmap : (parts.map fun p => (p.1, ({ tmps := tmps, defers := ds } : Act).eval p.2)).toList = parts.toList.map fun p => (p.1, ({ tmps := tmps, defers := ds } : Act).eval p.2) := by simp
        simp only [execOp, he, Instr.build, Sem.run_bind, run_zeT hze, Result.andThen_ok, run_underlying hu, hpl, Value.cells]
        rw [hmap, e]
        simp
      · cases hz
    · cases hc
  · cases hc

/-! ### A slice of its parts -/

def chkEls (vm ss : List Nat) : List (Nat × Operand) → List (Nat × Src) → Bool
  | [], [] => true
  | p :: r, q :: t => chkSrc vm ss p.2 q.2 && ((p.1 == q.1) && chkEls vm ss r t)
  | _, _ => false

def cMkSl (P : Program) (vm ss : List Nat) (sz : Nat) (z : AV) (n : Nat) (ps : List (Nat × Src)) : Op → Bool
  | .buildSlice t m parts => (m == n) && (decide (n * sz ≤ 16777216) && (decide (1 ≤ sz) && ((match slT P t with
    | some e => szT P e == some sz && (match zeT P e with
      | some zv => eqv zv z && (z.cells.length == sz && z.atoms)
      | none => false)
    | none => false) && chkEls vm ss parts.toList ps)))
  | _ => false

/-- Cells read as elements say. -/
structure RelE (S : Nat → Prop) (w : World) (sz : Nat) (cs : Array Value) (els : List AV) : Prop where
  n : cs.size = els.length * sz
  c : ∀ i, i < els.length → (els.getD i .any).cells.length = sz ∧ (els.getD i .any).atoms = true
  r : ∀ i j, i < els.length → j < sz → VR S w (cs.getD (i * sz + j) undef) ((els.getD i .any).cells.getD j .any)

theorem div_lt {i j sz n : Nat} (hi : i < n) (hj : j < sz) : i * sz + j < n * sz := by
  have : (i + 1) * sz ≤ n * sz := Nat.mul_le_mul_right _ (by omega)
  rw [Nat.add_mul] at this; omega

theorem RelE.put {S : Nat → Prop} {sz : Nat} {cs : Array Value} {els : List AV} (h : RelE S w sz cs els) {v : Value} {a : AV} (hv : VR S w v a) (ha : a.atoms = true) (hl : a.cells.length = sz) {k : Nat} (hk : k < els.length) :
    RelE S w sz (v.cells.zipIdx.foldl (fun cs (c, j) => cs.setIfInBounds (k * sz + j) c) cs) (els.set k a) := by
  have hc := hv.cells ha
  have hf := fold_get v.cells.toList 0 (k * sz) cs
  have hset : ∀ i, i < els.length → (els.set k a).getD i .any = if k = i then a else els.getD i .any := by
    intro i hi
    rw [List.getD_eq_getElem?_getD, List.getElem?_set]
    by_cases e : k = i
    · simp [e, hi]
    · simp [e, List.getD_eq_getElem?_getD]
  rw [zipIdx_foldl]
  refine ⟨by rw [hf.1, h.n]; simp, fun i hi => ?_, fun i j hi hj => ?_⟩
  · have hi' : i < els.length := by simpa using hi
    rw [hset i hi']
    split
    · exact ⟨hl, ha⟩
    · exact h.c i hi'
  · have hi' : i < els.length := by simpa using hi
    rw [hset i hi', hf.2]
    simp only [Array.length_toList, hc.1, hl, Nat.add_zero, h.n]
    have hb := div_lt hi' hj
    by_cases e : k = i
    · subst e
      rw [if_pos rfl, if_pos (by omega), Nat.add_sub_cancel_left, getD_toList]
      exact hc.2 j (by omega)
    · rw [if_neg e, if_neg]
      · exact h.r i j hi' hj
      · rintro ⟨h1, h2, _⟩
        rcases Nat.lt_or_gt_of_ne e with hlt | hlt
        · have : (k + 1) * sz ≤ i * sz := Nat.mul_le_mul_right _ (by omega)
          rw [Nat.add_mul] at this; omega
        · have : (i + 1) * sz ≤ k * sz := Nat.mul_le_mul_right _ (by omega)
          rw [Nat.add_mul] at this; omega

theorem fillE_run (h : FR F g w tmps vm ss s) (sz : Nat) : ∀ (parts : List (Nat × Operand)) (ps : List (Nat × Src)) (cs : Array Value) (els : List AV) (n : Nat), els.length = n →
    chkEls vm ss parts ps = true → setOk sz n (ps.map fun p => (p.1, rd s p.2)) = true → RelE (SetOf F g s.ob) w sz cs els →
    ∃ cs', Instr.fill (fun i => some (i * sz, sz)) cs (parts.map fun p => (p.1, ({ tmps := tmps, defers := ds } : Act).eval p.2)) = some cs' ∧ RelE (SetOf F g s.ob) w sz cs' (setEls els (ps.map fun p => (p.1, rd s p.2)))
  | [], [], cs, els, n, _, _, _, hr => ⟨cs, rfl, hr⟩
  | [], _ :: _, _, _, _, _, hc, _, _ => by simp [chkEls] at hc
  | _ :: _, [], _, _, _, _, hc, _, _ => by simp [chkEls] at hc
  | p :: r, q :: t, cs, els, n, hn, hc, hok, hr => by
    simp only [chkEls, Bool.and_eq_true, beq_iff_eq] at hc
    obtain ⟨hs, hpq, hrest⟩ := hc
    simp only [List.map_cons, setOk, Bool.and_eq_true, beq_iff_eq, decide_eq_true_eq] at hok
    obtain ⟨hlt, hl, hat, hok⟩ := hok
    have hv := (h.src (ds := ds) hs).atoms hat
    have hc2 := hv.cells hat
    have hput := hr.put hv hat hl (k := q.1) (by omega)
    obtain ⟨cs', e, hr'⟩ := fillE_run h sz r t _ _ n (by simpa using hn) hrest hok hput
    refine ⟨cs', ?_, by simp only [List.map_cons, setEls]; exact hr'⟩
    have k1 : (({ tmps := tmps, defers := ds } : Act).eval p.2).cells.size = sz := by rw [hc2.1, hl]
    have k2 : q.1 * sz + (({ tmps := tmps, defers := ds } : Act).eval p.2).cells.size ≤ cs.size := by
      rw [k1, hr.n]
      have : (q.1 + 1) * sz ≤ els.length * sz := Nat.mul_le_mul_right _ (by omega)
      rw [Nat.add_mul] at this; omega
    rw [List.map_cons, Instr.fill]
    simp only [hpq]
    rw [if_neg (by simp only [Bool.or_eq_true, decide_eq_true_eq]; omega)]
    exact e

theorem setEls_len : ∀ (ps : List (Nat × AV)) (els : List AV), (setEls els ps).length = els.length
  | [], _ => rfl
  | p :: r, els => by simp only [setEls]; rw [setEls_len r]; simp

theorem s_mkSl (h : FR F g w tmps vm ss s) {sz : Nat} {z : AV} {n : Nat} {ps : List (Nat × Src)} (hc : cMkSl P vm ss sz z n ps o.op = true) (hok : setOk sz n (ps.map fun p => (p.1, rd s p.2)) = true) :
    StillPost (SetOf F g s.ob) w g s.ob key ⟨setOk sz n (ps.map fun p => (p.1, rd s p.2)), .own (keyOf key), [(keyOf key, ⟨sz, setEls (List.replicate n z) (ps.map fun p => (p.1, rd s p.2))⟩)]⟩ ((execOp ({ tmps := tmps, defers := ds } : Act).eval o).run P w) := by
  unfold cMkSl at hc
  split at hc
  · rename_i t m parts he
    simp only [Bool.and_eq_true, beq_iff_eq, decide_eq_true_eq] at hc
    obtain ⟨hm, hle, hp, hty, hpar⟩ := hc
    subst hm
    split at hty
    · rename_i e hsl
      simp only [Bool.and_eq_true, beq_iff_eq] at hty
      obtain ⟨hsz, hty⟩ := hty
      split at hty
      · rename_i zv hz
        simp only [Bool.and_eq_true, beq_iff_eq] at hty
        obtain ⟨hzz, hzl, hza⟩ := hty
        have hu := slT_eq hsl
        have hvc := (eqv_VR (S := SetOf F g s.ob) (w := w) hzz).cells hza
        have hzs : zv.cells.size = sz := by rw [hvc.1, hzl]
        let zc : Array Value := if m * sz = 0 then #[] else zv.cells
        let arr : Array Value := (Array.range (m * sz)).map (zc[· % zc.size]!)
        have hrep : ∀ i, i < m → (List.replicate m z).getD i .any = z := fun i hi => by
          rw [List.getD_eq_getElem?_getD, List.getElem?_replicate, if_pos hi]; rfl
        have hrel : RelE (SetOf F g s.ob) w sz arr (List.replicate m z) := by
          refine ⟨by simp [arr], fun i hi => ?_, fun i j hi hj => ?_⟩
          · rw [hrep i (by simpa using hi)]; exact ⟨hzl, hza⟩
          · have hi' : i < m := by simpa using hi
            have hlt := div_lt hi' hj
            have hne : m * sz ≠ 0 := by omega
            have hmod : (i * sz + j) % sz = j := by rw [Nat.mul_comm, Nat.mul_add_mod]; exact Nat.mod_eq_of_lt hj
            have hzc : zc = zv.cells := if_neg hne
            have : arr.getD (i * sz + j) undef = zv.cells.getD j undef := by
              rw [Array.getD_eq_getD_getElem?, Array.getElem?_eq_getElem (by simpa [arr] using hlt)]
              simp only [arr, Array.getElem_map, Array.getElem_range, Option.getD_some, hzc, hzs, hmod]
              rw [getElem!_pos zv.cells j (by omega), Array.getD_eq_getD_getElem?, Array.getElem?_eq_getElem (by omega)]; rfl
            rw [hrep i hi', this]
            exact hvc.2 j (by omega)
        obtain ⟨cs', ef, hr⟩ := fillE_run (ds := ds) h sz parts.toList ps arr (List.replicate m z) m (by simp) hpar hok hrel
        have hmap : (parts.map fun p => (p.1, ({ tmps := tmps, defers := ds } : Act).eval p.2)).toList = parts.toList.map fun p => (p.1, ({ tmps := tmps, defers := ds } : Act).eval p.2) := by simp
        have hn : ¬ (m * sz > 2 ^ 24) := by omega
        have hel : (setEls (List.replicate m z) (ps.map fun p => (p.1, rd s p.2))).length = m := by rw [setEls_len]; simp
        refine ⟨.slice (some ⟨w.heap.size, 0, none⟩) m m, w.alloc (.cells cs' e), ?_, Same.alloc _ _ _, .inr ⟨_, _, w.heap.size, m, rfl, by simp [keyOf], Nat.le_refl _, fun S' hS => ?_, .inl ⟨rfl, .inl (by rw [hel])⟩⟩⟩
        · have ef' : Instr.fill (fun i => some (i * sz, sz)) ((Array.range (m * sz)).map fun x => zc[x % zc.size]!) (parts.toList.map fun p => (p.1, ({ tmps := tmps, defers := ds } : Act).eval p.2)) = some cs' := ef
          simp only [execOp, he, Instr.buildSlice, Sem.run_bind, run_underlying hu, Result.andThen_ok, run_szT hsz]
          rw [if_neg hn]
          by_cases h0 : m * sz = 0
          · have hzc : zc = #[] := if_pos h0
            rw [hzc] at ef'
            rw [if_pos h0]
            simp only [Sem.run_bind, Sem.run_pure, Result.andThen_ok, hmap, ef']
            simp [newRow]
          · have hzc : zc = zv.cells := if_neg h0
            rw [hzc] at ef'
            rw [if_neg h0]
            simp only [Sem.run_bind, Sem.run_pure, Result.andThen_ok, run_zeT hz, hmap, ef']
            simp [newRow]
        · refine ⟨hp, by rw [hel]; exact Nat.le_refl _, hr.c, fun _ => ⟨cs', e, (0, 0), heap_alloc_new _ _, .inl rfl, by rw [hr.n, hel], fun i j hi hj => ?_⟩⟩
          refine (hr.r i j hi hj).mono (Same.alloc _ _ _) fun b hb hc => ?_
          rcases hS b hc with e | e
          · exact e
          · omega
      · cases hty
    · cases hty
  · cases hc

end
end Go.Proofs.YtbobhejdijcofaaGreatDoor
