/- Operations that write nothing that was there, one by one. No condition. -/
import Derived.Test.YtbobhejdijcofaaGreatDoorEngE
namespace Go.Proofs.YtbobhejdijcofaaGreatDoor
open Go Go.RowKit
set_option linter.unusedSimpArgs false
set_option linter.unusedVariables false

section
variable {S : Nat → Prop} {w : World} {g : Gh} {ob : Obs} {v : Value}

theorem sr_int {k : IntKind} {n : Int} (h : SR S w g ob v (.int k n)) : v = .int k n := by simp only [SR, SR1] at h; cases h; rfl
theorem sr_bool {b : Bool} (h : SR S w g ob v (.bool b)) : v = .bool b := by simp only [SR, SR1] at h; cases h; rfl
theorem sr_str {l : List UInt8} (h : SR S w g ob v (.str l)) : v = .string ⟨l.toArray⟩ := by simp only [SR, SR1] at h; cases h; rfl
theorem sr_nil (h : SR S w g ob v .nilsl) : v = .slice none 0 0 := by simp only [SR, SR1] at h; cases h; rfl
theorem sr_idx {a : AV} (h : SR S w g ob v a) (hi : 0 ≤ idx a) : ∃ k, v = .int k (idx a) := by
  cases a <;> simp [idx] at hi ⊢
  exact ⟨_, sr_int h⟩
end

/-! ### What the program says of types -/

def aggO (P : Program) (t : TypeId) : Option Bool :=
  match P.underlying t with
  | some (.struct _) => some true
  | some (.array _ _) => some true
  | some _ => some false
  | none => none

def szT (P : Program) (t : TypeId) : Option Nat := (P.info? t).map (·.size)
def byT (P : Program) (t : TypeId) : Option Nat := (P.info? t).map (·.bytes)
def zeT (P : Program) (t : TypeId) : Option Value := (P.info? t).bind (·.zero)

section
variable {P : Program} {w : World} {t : TypeId}
theorem run_aggO {b : Bool} (h : aggO P t = some b) : (isAgg t).run P w = .ok b w := by
  unfold aggO at h
  unfold isAgg
  split at h <;> (try (cases h; done)) <;> rename_i hu <;> simp only [Option.some.injEq] at h <;> subst h
  · rw [Sem.run_bind, run_underlying hu w]; rfl
  · rw [Sem.run_bind, run_underlying hu w]; rfl
  · rename_i d h1 h2
    rw [Sem.run_bind, run_underlying hu w]
    cases d <;> first | rfl | (exact absurd rfl (h1 _)) | (exact absurd rfl (h2 _ _))

theorem run_info {i : TypeInfo} (h : P.info? t = some i) : (typeInfo t).run P w = .ok i w := by simp [typeInfo, h]

theorem run_szT {n : Nat} (h : szT P t = some n) : (sizeOf t).run P w = .ok n w := by
  unfold szT at h
  cases hi : P.info? t with
  | none => rw [hi] at h; cases h
  | some i =>
    rw [hi] at h
    simp only [Option.map_some, Option.some.injEq] at h
    simp [sizeOf, typeInfo, hi, h]

theorem run_zeT {z : Value} (h : zeT P t = some z) : (zeroValue t).run P w = .ok z w := by
  unfold zeT at h
  cases hi : P.info? t with
  | none => rw [hi] at h; cases h
  | some i =>
    rw [hi] at h
    simp only [Option.bind_some] at h
    simp [zeroValue, typeInfo, hi, h]

theorem byT_info {n : Nat} (h : byT P t = some n) : ∃ i, P.info? t = some i ∧ i.bytes = n := by
  unfold byT at h
  cases hi : P.info? t with
  | none => rw [hi] at h; cases h
  | some i => rw [hi] at h; exact ⟨i, rfl, by simpa using h⟩
end

theorem arr_getD {cs : Array Value} {j : Nat} (h : j < cs.size) : ∃ u, cs[j]? = some u ∧ cs.getD j undef = u :=
  ⟨cs[j], Array.getElem?_eq_getElem h, by rw [Array.getD_eq_getD_getElem?, Array.getElem?_eq_getElem h]; rfl⟩

theorem bytes_get {l : List UInt8} {i : Nat} (h : i < l.length) : (⟨l.toArray⟩ : ByteArray)[i]? = some (l.getD i 0) := by
  have hsz : i < (⟨l.toArray⟩ : ByteArray).size := by simpa [ByteArray.size] using h
  rw [getElem?_pos (⟨l.toArray⟩ : ByteArray) i hsz, List.getD_eq_getElem?_getD, List.getElem?_eq_getElem h]
  rfl

theorem add_plain (b o n : Nat) : (⟨b, o, none⟩ : Addr).add n = ⟨b, o + n, none⟩ := by unfold Addr.add; split <;> simp_all

/-- A part of an element is loaded. -/
theorem load_el {S : Nat → Prop} {w : World} {P : Program} {t : TypeId} {agg : Bool} {sz off b base : Nat} {el : AV} {r : Nat → Value} (hagg : aggO P t = some agg) (hsz : szT P t = some sz)
    (hat : el.atoms = true) (hw : ∀ j, j < el.cells.length → w.cell? ⟨b, base + j, none⟩ = some (r j)) (hr : ∀ j, j < el.cells.length → VR S w (r j) (el.cells.getD j .any)) (hok : (part agg sz off el).ok = true) :
    ∃ v, (loadVar t ⟨b, base + off, none⟩).run P w = .ok v w ∧ VR S w v (part agg sz off el).v := by
  cases agg with
  | false =>
    simp only [part, decide_eq_true_eq] at hok ⊢
    exact ⟨r off, by simp [loadVar, run_aggO hagg, hw off hok], hr off hok⟩
  | true =>
    simp only [part, Bool.and_eq_true, decide_eq_true_eq] at hok ⊢
    obtain ⟨hisAgg, hle⟩ := hok
    have hl := run_loadCells (P := P) w ⟨b, base + off, none⟩ sz (fun j => r (off + j)) (fun j hj => by
      rw [add_plain, Nat.add_assoc]; exact hw (off + j) (by omega))
    refine ⟨_, by simp [loadVar, run_aggO hagg, run_szT hsz, hl]; rfl, ?_⟩
    have hget : ∀ j, j < sz → (((List.range sz).map fun j => r (off + j)).toArray).getD j undef = r (off + j) := by
      intro j hj
      simp [Array.getD_eq_getD_getElem?, hj]
    rw [cond_eq_if]
    split
    · rename_i he
      simp only [Bool.and_eq_true, beq_iff_eq] at he
      obtain ⟨h0, h1⟩ := he
      subst h0
      cases el <;> simp [AV.isAgg] at hisAgg
      rename_i cs
      simp only [AV.cells] at h1 hr
      refine .agg (by simp [h1]) (fun j hj => by simpa [AV.cells] using atoms_cells hat (j := j) (by simpa [AV.cells] using hj)) fun j hj => ?_
      rw [hget j (by omega), Nat.zero_add]
      exact hr j hj
    · have hd : ∀ j, j < sz → ((el.cells.drop off).take sz).getD j .any = el.cells.getD (off + j) .any := by
        intro j hj
        simp [List.getD_eq_getElem?_getD, List.getElem?_take, List.getElem?_drop, hj]
      have hlen : ((el.cells.drop off).take sz).length = sz := by simp; omega
      refine .agg (by simp [hlen]) (fun j hj => ?_) fun j hj => ?_
      · rw [hd j (by omega)]; exact atoms_cells hat (by omega)
      · rw [hd j (by omega), hget j (by omega)]; exact hr _ (by omega)

/-! ### The operations -/

def cMov (vm ss : List Nat) (x : Src) : Op → Bool
  | .move y => chkSrc vm ss y x
  | .assign y => chkSrc vm ss y x
  | _ => false

def cLoad (P : Program) (vm ss : List Nat) (agg : Bool) (sz : Nat) (x : Src) : Op → Bool
  | .load t y => chkSrc vm ss y x && (aggO P t == some agg && szT P t == some sz)
  | _ => false

def cNilck (vm ss : List Nat) (x : Src) : Op → Bool
  | .nilCheck y => chkSrc vm ss y x
  | _ => false

def slT (P : Program) (t : TypeId) : Option TypeId :=
  match P.underlying t with
  | some (.slice e) => some e
  | _ => none

def strT (P : Program) (t : TypeId) : Bool :=
  match P.underlying t with
  | some .string => true
  | _ => false

def intT (P : Program) (t : TypeId) : Option IntKind :=
  match P.underlying t with
  | some (.int k) => some k
  | _ => none

theorem slT_eq {P : Program} {t e : TypeId} (h : slT P t = some e) : P.underlying t = some (.slice e) := by
  unfold slT at h; split at h
  · rename_i hu; simp only [Option.some.injEq] at h; rw [hu, h]
  · cases h

theorem strT_eq {P : Program} {t : TypeId} (h : strT P t = true) : P.underlying t = some .string := by
  unfold strT at h; split at h
  · assumption
  · cases h

theorem intT_eq {P : Program} {t : TypeId} {k : IntKind} (h : intT P t = some k) : P.underlying t = some (.int k) := by
  unfold intT at h; split at h
  · rename_i hu; simp only [Option.some.injEq] at h; rw [hu, h]
  · cases h

def cIxAddr (P : Program) (vm ss : List Nat) (sz : Nat) (x i : Src) : Op → Bool
  | .indexAddr t y j => chkSrc vm ss y x && (chkSrc vm ss j i && (match slT P t with
    | some e => szT P e == some sz
    | none => false))
  | _ => false

def cIxStr (P : Program) (vm ss : List Nat) (x i : Src) : Op → Bool
  | .index t y j => chkSrc vm ss y x && (chkSrc vm ss j i && strT P t)
  | _ => false

def fieldOf (P : Program) (t : TypeId) (f : Nat) : Option Field :=
  match P.underlying t with
  | some (.struct fs) => fs[f]?
  | _ => none

theorem fieldOf_eq {P : Program} {t : TypeId} {f : Nat} {x : Field} (h : fieldOf P t f = some x) : ∃ fs, P.underlying t = some (.struct fs) ∧ fs[f]? = some x := by
  unfold fieldOf at h; split at h
  · rename_i fs hu; exact ⟨fs, hu, h⟩
  · cases h

def cFldAddr (P : Program) (vm ss : List Nat) (off : Nat) (x : Src) : Op → Bool
  | .fieldAddr t y f => chkSrc vm ss y x && (match fieldOf P t f with
    | some fd => fd.offset == off && (match szT P fd.type with | some n => !(n == 0) | none => false)
    | none => false)
  | _ => false

def cFld (P : Program) (vm ss : List Nat) (agg : Bool) (off sz : Nat) (x : Src) : Op → Bool
  | .field t y f => chkSrc vm ss y x && (match fieldOf P t f with
    | some fd => fd.offset == off && (aggO P fd.type == some agg && szT P fd.type == some sz)
    | none => false)
  | _ => false

def cExt (vm ss : List Nat) (x : Src) (i : Nat) : Op → Bool
  | .extract y j => chkSrc vm ss y x && i == j
  | _ => false

def cConv (P : Program) (vm ss : List Nat) (k : IntKind) (x : Src) : Op → Bool
  | .convert s d y => chkSrc vm ss y x && (match intT P s with | some _ => intT P d == some k | none => false)
  | _ => false

def cUn (vm ss : List Nat) (u : UnOp) (x : Src) : Op → Bool
  | .unOp u' _ y => chkSrc vm ss y x && u == u'
  | _ => false

def cLen (P : Program) (vm ss : List Nat) (st : Bool) (x : Src) : Op → Bool
  | .call { callee := .builtin .len, args := args, argTypes := tys } => (match args.toList, tys.toList with
    | [y], [t] => chkSrc vm ss y x && (if st = true then strT P t else (slT P t).isSome)
    | _, _ => false)
  | _ => false

def chkO (vm ss : List Nat) : Option Operand → Option Src → Bool
  | some a, some b => chkSrc vm ss a b
  | none, none => true
  | _, _ => false

def cSlice (P : Program) (vm ss : List Nat) (sz : Nat) (x : Src) (lo hi : Option Src) : Op → Bool
  | .slice t y l h none => chkSrc vm ss y x && (chkO vm ss l lo && (chkO vm ss h hi && ((strT P t && sz == 0) || (match slT P t with
    | some e => szT P e == some sz && !(sz == 0)
    | none => false))))
  | _ => false

def chkL (vm ss : List Nat) : List Operand → List Src → Bool
  | [], [] => true
  | a :: r, b :: q => chkSrc vm ss a b && chkL vm ss r q
  | _, _ => false

def cMkFn (vm ss : List Nat) (f : Fn) (fi ca : List Src) : Op → Bool
  | .makeFunc f' a b => decide (f = f') && (chkL vm ss a.toList fi && chkL vm ss b.toList ca)
  | _ => false

def cMake (P : Program) (vm ss : List Nat) (sz bytes : Nat) (z : AV) (l c : Src) : Op → Bool
  | .makeSlice t a b => chkSrc vm ss a l && (chkSrc vm ss b c && (match slT P t with
    | some e => szT P e == some sz && (byT P e == some bytes && (match zeT P e with
      | some zv => eqv zv z && (z.cells.length == sz && z.atoms)
      | none => false))
    | none => false))
  | _ => false

def cBox (vm ss : List Nat) (x : Src) : Op → Bool
  | .box _ y => chkSrc vm ss y x
  | _ => false

def cAlloc (P : Program) (z : AV) : Op → Bool
  | .alloc e => (match zeT P e with
    | some zv => eqv zv z
    | none => false)
  | _ => false

def cMM (vm ss : List Nat) (mx : Bool) (xs : List Src) : Op → Bool
  | .call { callee := .builtin b, args := args, argTypes := _ } => chkL vm ss args.toList xs && (match b with | .max => mx | .min => !mx | _ => false)
  | _ => false

section
variable {F : Nat → Prop} {g : Gh} {w : World} {tmps : Array Value} {ds : List Deferred} {vm ss : List Nat} {s : St} {P : Program} {o : Oper} {key : Nat}

theorem s_mov (h : FR F g w tmps vm ss s) {x : Src} (hc : cMov vm ss x o.op = true) :
    StillPost (SetOf F g s.ob) w g s.ob key (just (rd s x)) ((execOp ({ tmps := tmps, defers := ds } : Act).eval o).run P w) := by
  unfold cMov at hc
  split at hc
  · rename_i y he; exact .val (by simp [execOp, he]) rfl (h.src (ds := ds) hc)
  · rename_i y he; exact .val (by simp [execOp, he]) rfl (h.src (ds := ds) hc)
  · cases hc

theorem part_hs (agg : Bool) (sz off : Nat) (el : AV) : (part agg sz off el).hs = [] := by cases agg <;> rfl

/-- A home's cells. -/
theorem Home.cell {S : Nat → Prop} {w : World} {b cap sz : Nat} {els : List AV} (hh : Home S w b cap sz els) : ∃ r : Nat → Nat → Value, ∀ i j, i < els.length → j < sz →
    w.cell? ⟨b, i * sz + j, none⟩ = some (r i j) ∧ VR S w (r i j) ((els.getD i .any).cells.getD j .any) := by
  rcases Nat.eq_zero_or_pos cap with hz | hp
  · exact ⟨fun _ _ => undef, fun i j hi _ => absurd hi (by have := hh.len; omega)⟩
  obtain ⟨arr, T, fz, hr, hf, hsize, hvr⟩ := hh.row hp
  refine ⟨fun i j => arr.getD (i * sz + j) undef, fun i j hi hj => ⟨?_, hvr i j hi hj⟩⟩
  have hlt : i * sz + j < arr.size := by
    have h1 := hh.len
    have : (i + 1) * sz ≤ cap * sz := Nat.mul_le_mul_right _ (by omega)
    rw [Nat.add_mul] at this
    omega
  simp only [World.cell?, hr]
  simp [Array.getD_eq_getD_getElem?, hlt]

theorem FR.nil_els (h : FR F g w tmps vm ss s) {k : Nat} {hm : Hm} (ho : obGet k s.ob = some hm) (h0 : g.cap k = 0) : hm.els = [] := by
  have := (h.home k hm ho).len
  exact List.length_eq_zero_iff.1 (by omega)

/-- What a pointer of the frame leads to. -/
theorem loadA_ok (h : FR F g w tmps vm ss s) {agg : Bool} {sz : Nat} {t : TypeId} (hagg : aggO P t = some agg) (hsz : szT P t = some sz) {v : Value} {a : AV} (hv : SR (SetOf F g s.ob) w g s.ob v a) (hok : (loadA s.ob agg sz a).ok = true) :
    ∃ ad u, v = .pointer (some ad) ∧ (loadVar t ad).run P w = .ok u w ∧ VR (SetOf F g s.ob) w u (loadA s.ob agg sz a).v ∧ (loadA s.ob agg sz a).hs = [] := by
  cases a <;> simp only [loadA, bad] at hok <;> try (cases hok; done)
  case ref k i off =>
    obtain ⟨hm, ho, hi, hev⟩ := hv
    simp only [loadA, ho, loadH] at hok ⊢
    have hh := h.home k hm ho
    obtain ⟨r, hcell⟩ := hh.cell
    have hcl := hh.cells i hi
    obtain ⟨u, hrun, hvv⟩ := load_el (S := SetOf F g s.ob) (b := g.β k) (base := i * hm.sz) (r := r i) hagg hsz hcl.2 (fun j hj => (hcell i j hi (by rw [hcl.1] at hj; exact hj)).1) (fun j hj => (hcell i j hi (by rw [hcl.1] at hj; exact hj)).2) hok
    exact ⟨_, u, hev, hrun, hvv, part_hs _ _ _ _⟩
  case ptr sz0 els i off =>
    simp only [SR, SR1] at hv
    cases hv with
    | ptr b off0 r hsz0 hi hs hcl hw hr =>
      simp only [loadA] at hok ⊢
      obtain ⟨u, hrun, hvv⟩ := load_el (S := SetOf F g s.ob) (b := b) (base := off0 + i * sz0) (r := r i) hagg hsz (hcl i hi).2 (fun j hj => by rw [Nat.add_assoc]; exact hw i j hi (by rw [(hcl i hi).1] at hj; exact hj)) (fun j hj => hr i j hi (by rw [(hcl i hi).1] at hj; exact hj)) hok
      exact ⟨_, u, rfl, by rw [Nat.add_assoc] at hrun; exact hrun, hvv, part_hs _ _ _ _⟩

theorem s_load (h : FR F g w tmps vm ss s) {agg : Bool} {sz : Nat} {x : Src} (hc : cLoad P vm ss agg sz x o.op = true) (hok : (loadA s.ob agg sz (rd s x)).ok = true) :
    StillPost (SetOf F g s.ob) w g s.ob key (loadA s.ob agg sz (rd s x)) ((execOp ({ tmps := tmps, defers := ds } : Act).eval o).run P w) := by
  unfold cLoad at hc
  split at hc
  · rename_i t y he
    simp only [Bool.and_eq_true, beq_iff_eq] at hc
    obtain ⟨hs, hagg, hsz⟩ := hc
    obtain ⟨ad, u, hev, hrun, hvv, hhs⟩ := loadA_ok h hagg hsz (h.src (ds := ds) hs) hok
    exact .val (v := u) (by simp [execOp, he, Instr.loadAt, Instr.sureAddr, hev, hrun]) hhs hvv.toSR
  · cases hc

theorem s_nilck (h : FR F g w tmps vm ss s) {x : Src} (hc : cNilck vm ss x o.op = true) (hok : (nilckA (rd s x)).ok = true) :
    StillPost (SetOf F g s.ob) w g s.ob key (nilckA (rd s x)) ((execOp ({ tmps := tmps, defers := ds } : Act).eval o).run P w) := by
  unfold cNilck at hc
  split at hc
  · rename_i y he
    have hv := h.src (ds := ds) hc
    revert hok
    generalize rd s x = a at hv
    intro hok
    cases a <;> simp only [nilckA, bad] at hok <;> try (cases hok; done)
    case ref k i off =>
      obtain ⟨hm, ho, hi, hev⟩ := id hv
      exact .val (v := .pointer (some ⟨g.β k, i * hm.sz + off, none⟩)) (by simp [execOp, he, hev]) rfl (by rw [hev] at hv; exact hv)
    case ptr sz0 els i off =>
      have hv2 := hv
      simp only [SR, SR1] at hv
      generalize hev : ({ tmps := tmps, defers := ds } : Act).eval y = v at hv hv2
      cases hv
      exact .val (by simp [execOp, he, hev]) rfl hv2
    case fn f a1 a2 =>
      cases f <;> simp only [nilckA, bad] at hok <;> try (cases hok; done)
      rename_i ff
      obtain ⟨v1, v2, hev, _⟩ := id hv
      exact .val (v := .func (.func ff) v1 v2) (by simp [execOp, he, hev]) rfl (by rw [hev] at hv; exact hv)
  · cases hc

theorem s_ixAddr (h : FR F g w tmps vm ss s) {sz : Nat} {x i : Src} (hc : cIxAddr P vm ss sz x i o.op = true) (hok : (ixAddrA s.ob sz (idx (rd s i)) (rd s x)).ok = true) :
    StillPost (SetOf F g s.ob) w g s.ob key (ixAddrA s.ob sz (idx (rd s i)) (rd s x)) ((execOp ({ tmps := tmps, defers := ds } : Act).eval o).run P w) := by
  unfold cIxAddr at hc
  split at hc
  · rename_i t y j he
    simp only [Bool.and_eq_true] at hc
    obtain ⟨hs, hj, hty⟩ := hc
    cases hsl : slT P t with
    | none => rw [hsl] at hty; cases hty
    | some e =>
      rw [hsl] at hty
      simp only [beq_iff_eq] at hty
      have hu := slT_eq hsl
      have hv := h.src (ds := ds) hs
      have hvi := h.src (ds := ds) hj
      revert hok
      generalize rd s x = a at hv
      intro hok
      cases a <;> simp only [ixAddrA, bad] at hok <;> try (cases hok; done)
      case own k =>
        obtain ⟨hm, ho, hev⟩ := hv
        simp only [ixAddrA, ho, ixOwn, when, ixOk, Bool.and_eq_true, beq_iff_eq, decide_eq_true_eq] at hok ⊢
        obtain ⟨hsz, h0, h1⟩ := hok
        obtain ⟨kk, hiv⟩ := sr_idx hvi h0
        have hlt : (idx (rd s i)).toNat < hm.els.length := by omega
        rcases hev with hev | ⟨hz, hev⟩
        rotate_left
        · rw [h.nil_els ho hz] at hlt; cases hlt
        refine .val (v := .pointer (some ⟨g.β k, (idx (rd s i)).toNat * sz, none⟩)) ?_ rfl ⟨hm, ho, hlt, by simp [hsz]⟩
        simp [execOp, he, Instr.indexAt, hev, hiv, asIntOf, run_underlying hu, run_szT hty, h0, h1, add_plain]
      case sl sz0 els =>
        simp only [SR, SR1] at hv
        generalize hev : ({ tmps := tmps, defers := ds } : Act).eval y = v at hv
        cases hv with
        | @sl ad n cap _ _ b off r hn hcap hsz0 ha hcl hw hr =>
          simp only [ixAddrA, when, ixOk, Bool.and_eq_true, beq_iff_eq, decide_eq_true_eq] at hok ⊢
          obtain ⟨hsz, h0, h1⟩ := hok
          obtain ⟨kk, hiv⟩ := sr_idx hvi h0
          have hlt : (idx (rd s i)).toNat < els.length := by omega
          obtain ⟨rfl, hns⟩ := ha (by omega)
          subst hn
          refine .val (v := .pointer (some ⟨b, off + ((idx (rd s i)).toNat * sz0 + 0), none⟩)) ?_ rfl (VR.toSR (VR.narrow (.ptr b off r hsz0 hlt hns hcl hw hr)))
          simp [execOp, he, Instr.indexAt, hev, hiv, asIntOf, run_underlying hu, run_szT hty, h0, h1, add_plain, hsz]
  · cases hc

theorem s_ixStr (h : FR F g w tmps vm ss s) {x i : Src} (hc : cIxStr P vm ss x i o.op = true) (hok : (ixStrA (idx (rd s i)) (rd s x)).ok = true) :
    StillPost (SetOf F g s.ob) w g s.ob key (ixStrA (idx (rd s i)) (rd s x)) ((execOp ({ tmps := tmps, defers := ds } : Act).eval o).run P w) := by
  unfold cIxStr at hc
  split at hc
  · rename_i t y j he
    simp only [Bool.and_eq_true] at hc
    obtain ⟨hs, hj, hty⟩ := hc
    have hu := strT_eq hty
    have hv := h.src (ds := ds) hs
    have hvi := h.src (ds := ds) hj
    revert hok
    generalize rd s x = a at hv
    intro hok
    cases a <;> simp only [ixStrA, bad] at hok <;> try (cases hok; done)
    case str l =>
      have hev := sr_str hv
      simp only [ixStrA, when, ixOk, Bool.and_eq_true, decide_eq_true_eq] at hok ⊢
      obtain ⟨h0, h1⟩ := hok
      obtain ⟨kk, hiv⟩ := sr_idx hvi h0
      have hlt : (idx (rd s i)).toNat < l.length := by omega
      refine .val (v := .int .u8 ((l.getD (idx (rd s i)).toNat 0).toNat : Int)) ?_ rfl (VR.toSR (by unfold byteAV; exact .int))
      have hg := bytes_get hlt
      simp [execOp, he, Instr.index, hev, hiv, asIntOf, run_underlying hu, h0, hg]
  · cases hc

theorem s_fldAddr (h : FR F g w tmps vm ss s) {off : Nat} {x : Src} (hc : cFldAddr P vm ss off x o.op = true) (hok : (fldAddrA off (rd s x)).ok = true) :
    StillPost (SetOf F g s.ob) w g s.ob key (fldAddrA off (rd s x)) ((execOp ({ tmps := tmps, defers := ds } : Act).eval o).run P w) := by
  unfold cFldAddr at hc
  split at hc
  · rename_i t y f he
    simp only [Bool.and_eq_true] at hc
    obtain ⟨hs, hty⟩ := hc
    cases hf : fieldOf P t f with
    | none => rw [hf] at hty; cases hty
    | some fd =>
      rw [hf] at hty
      simp only [Bool.and_eq_true, beq_iff_eq] at hty
      obtain ⟨hoff, hz⟩ := hty
      cases hsz : szT P fd.type with
      | none => rw [hsz] at hz; cases hz
      | some n =>
        rw [hsz] at hz
        have hn : n ≠ 0 := by simpa using hz
        obtain ⟨fs, hu, hfs⟩ := fieldOf_eq hf
        have hv := h.src (ds := ds) hs
        have hrun : ∀ ad : Addr, (fieldPlace ad fd).run P w = .ok (ad.add off) w := fun ad => by simp [fieldPlace, run_szT hsz, hn, hoff]
        revert hok
        generalize rd s x = a at hv
        intro hok
        cases a <;> simp only [fldAddrA, bad] at hok <;> try (cases hok; done)
        case ref k i o0 =>
          obtain ⟨hm, ho, hi, hev⟩ := hv
          refine .val (v := .pointer (some ⟨g.β k, i * hm.sz + (o0 + off), none⟩)) ?_ rfl ⟨hm, ho, hi, rfl⟩
          simp [execOp, he, Instr.fieldAt, hev, run_underlying hu, hfs, Instr.sureAddr, hrun, add_plain, Nat.add_assoc]
        case ptr sz0 els i o0 =>
          simp only [SR, SR1] at hv
          generalize hev : ({ tmps := tmps, defers := ds } : Act).eval y = v at hv
          cases hv with
          | ptr b off0 r hsz0 hi hns hcl hw hr =>
            refine .val (v := .pointer (some ⟨b, off0 + (i * sz0 + (o0 + off)), none⟩)) ?_ rfl (VR.toSR (.ptr b off0 r hsz0 hi hns hcl hw hr))
            simp [execOp, he, Instr.fieldAt, hev, run_underlying hu, hfs, Instr.sureAddr, hrun, add_plain, Nat.add_assoc]
  · cases hc

theorem s_ext (h : FR F g w tmps vm ss s) {x : Src} {i : Nat} (hc : cExt vm ss x i o.op = true) (hok : (extA i (rd s x)).ok = true) :
    StillPost (SetOf F g s.ob) w g s.ob key (extA i (rd s x)) ((execOp ({ tmps := tmps, defers := ds } : Act).eval o).run P w) := by
  unfold cExt at hc
  split at hc
  · rename_i y j he
    simp only [Bool.and_eq_true, beq_iff_eq] at hc
    obtain ⟨hs, hij⟩ := hc
    subst hij
    have hv := h.src (ds := ds) hs
    revert hok
    generalize rd s x = a at hv
    intro hok
    cases a <;> simp only [extA, bad] at hok <;> try (cases hok; done)
    case tup as =>
      obtain ⟨vs, hev, hn, h1⟩ := hv
      simp only [extA, when, decide_eq_true_eq] at hok ⊢
      obtain ⟨u, hget, hgu⟩ := arr_getD (cs := vs) (j := i) (by rw [hn]; exact hok)
      have h1 := h1 i hok
      rw [hgu] at h1
      exact .val (v := u) (by simp [execOp, he, hev, Instr.extract, hget]) rfl h1.toSR
  · cases hc

theorem s_un (h : FR F g w tmps vm ss s) {u : UnOp} {x : Src} (hc : cUn vm ss u x o.op = true) (hok : (unA u (rd s x)).ok = true) :
    StillPost (SetOf F g s.ob) w g s.ob key (unA u (rd s x)) ((execOp ({ tmps := tmps, defers := ds } : Act).eval o).run P w) := by
  unfold cUn at hc
  split at hc
  · rename_i u' t y he
    simp only [Bool.and_eq_true, beq_iff_eq] at hc
    obtain ⟨hs, rfl⟩ := hc
    have hv := h.src (ds := ds) hs
    revert hok
    generalize rd s x = a at hv
    intro hok
    cases a <;> simp only [unA, bad] at hok <;> try (cases hok; done)
    case int k n =>
      have hev := sr_int hv
      cases u <;> simp only [just] at hok <;> try (cases hok; done)
      exact .val (v := .int k (k.wrap (0 - n))) (by simp [execOp, he, hev, Op.unary, Op.intArith]) rfl (VR.toSR .int)
    case bool b =>
      have hev := sr_bool hv
      cases u <;> simp only [just] at hok <;> try (cases hok; done)
      exact .val (v := .bool (!b)) (by simp [execOp, he, hev, Op.unary]) rfl (VR.toSR .bool)
  · cases hc

theorem s_conv (h : FR F g w tmps vm ss s) {k : IntKind} {x : Src} (hc : cConv P vm ss k x o.op = true) (hok : (convA k (rd s x)).ok = true) :
    StillPost (SetOf F g s.ob) w g s.ob key (convA k (rd s x)) ((execOp ({ tmps := tmps, defers := ds } : Act).eval o).run P w) := by
  unfold cConv at hc
  split at hc
  · rename_i sT dT y he
    simp only [Bool.and_eq_true] at hc
    obtain ⟨hs, hty⟩ := hc
    cases hi : intT P sT with
    | none => rw [hi] at hty; cases hty
    | some k0 =>
      rw [hi] at hty
      simp only [beq_iff_eq] at hty
      have hv := h.src (ds := ds) hs
      revert hok
      generalize rd s x = a at hv
      intro hok
      cases a <;> simp only [convA, bad] at hok <;> try (cases hok; done)
      case int k1 n =>
        have hev := sr_int hv
        exact .val (v := .int k (k.wrap n)) (by simp [execOp, he, hev, convert, run_underlying (intT_eq hi), run_underlying (intT_eq hty), Conv.intToInt]) rfl (VR.toSR .int)
  · cases hc

theorem size_mk (l : List UInt8) : (⟨l.toArray⟩ : ByteArray).size = l.length := by simp [ByteArray.size]

theorem s_len (h : FR F g w tmps vm ss s) {st : Bool} {x : Src} (hc : cLen P vm ss st x o.op = true) (hok : (lenA s.ob st (rd s x)).ok = true) :
    StillPost (SetOf F g s.ob) w g s.ob key (lenA s.ob st (rd s x)) ((execOp ({ tmps := tmps, defers := ds } : Act).eval o).run P w) := by
  unfold cLen at hc
  split at hc
  · rename_i args tys he
    split at hc
    · rename_i y t hargs htys
      simp only [Bool.and_eq_true] at hc
      obtain ⟨hs, hty⟩ := hc
      obtain rfl : args = #[y] := by cases args; simp_all
      obtain rfl : tys = #[t] := by cases tys; simp_all
      have hv := h.src (ds := ds) hs
      revert hok
      generalize rd s x = a at hv
      intro hok
      cases a <;> simp only [lenA, bad] at hok <;> try (cases hok; done)
      case str l =>
        have hev := sr_str hv
        simp only [when] at hok
        subst hok
        have hu := strT_eq (by simpa using hty)
        exact .val (v := .int .i64 (l.length : Int)) (by simp [execOp, he, resolve, invoke, builtin, Builtin.len_, run_underlying hu, hev, goInt, size_mk]) rfl (VR.toSR .int)
      all_goals
        obtain rfl : st = false := by cases st <;> simp_all [when, also]
        simp only [Bool.false_eq_true, if_false, Option.isSome_iff_exists] at hty
        obtain ⟨e, hsl⟩ := hty
        have hu := slT_eq hsl
      case sl sz els =>
        simp only [SR, SR1] at hv
        generalize hev : ({ tmps := tmps, defers := ds } : Act).eval y = v at hv
        cases hv with
        | @sl ad n cap _ _ b off r hn hcap hsz0 ha hcl hw hr =>
          exact .val (v := .int .i64 (els.length : Int)) (by simp [execOp, he, resolve, invoke, builtin, Builtin.len_, run_underlying hu, hev, goInt, hn]) rfl (VR.toSR .int)
      case nilsl =>
        have hev := sr_nil hv
        exact .val (v := .int .i64 0) (by simp [execOp, he, resolve, invoke, builtin, Builtin.len_, run_underlying hu, hev, goInt]) rfl (VR.toSR .int)
      case own k =>
        obtain ⟨hm, ho, hev⟩ := hv
        simp only [lenA, ho, lenHm]
        rcases hev with hev | ⟨hz, hev⟩
        rotate_left
        · rw [h.nil_els ho hz]
          exact .val (v := .int .i64 0) (by simp [execOp, he, resolve, invoke, builtin, Builtin.len_, run_underlying hu, hev, goInt]) rfl (VR.toSR .int)
        exact .val (v := .int .i64 (hm.els.length : Int)) (by simp [execOp, he, resolve, invoke, builtin, Builtin.len_, run_underlying hu, hev, goInt]) rfl (VR.toSR .int)
    · cases hc
  · cases hc

theorem s_box (h : FR F g w tmps vm ss s) {x : Src} (hc : cBox vm ss x o.op = true) (hok : (boxA (keyOf key) (rd s x)).ok = true) :
    StillPost (SetOf F g s.ob) w g s.ob key (boxA (keyOf key) (rd s x)) ((execOp ({ tmps := tmps, defers := ds } : Act).eval o).run P w) := by
  unfold cBox at hc
  split at hc
  · rename_i e y he
    have hv := h.src (ds := ds) hc
    have hat : (rd s x).atoms = true := by simp only [boxA, Bool.and_eq_true] at hok; exact hok.2
    exact still_box (P := P) (t := e) (hv.atoms hat) hok (by simp [execOp, he, Instr.box, newVar, newRow])
  · cases hc

theorem s_alloc (h : FR F g w tmps vm ss s) {z : AV} (hc : cAlloc P z o.op = true) (hok : (boxA (keyOf key) z).ok = true) :
    StillPost (SetOf F g s.ob) w g s.ob key (boxA (keyOf key) z) ((execOp ({ tmps := tmps, defers := ds } : Act).eval o).run P w) := by
  unfold cAlloc at hc
  split at hc
  · rename_i e he
    split at hc
    · rename_i zv hz
      exact still_box (P := P) (t := e) (eqv_VR hc) hok (by simp [execOp, he, Instr.alloc, run_zeT hz, newVar, newRow])
    · cases hc
  · cases hc

theorem s_fld (h : FR F g w tmps vm ss s) {agg : Bool} {off sz : Nat} {x : Src} (hc : cFld P vm ss agg off sz x o.op = true) (hok : (part agg sz off (rd s x)).ok = true) (hag : (rd s x).isAgg = true) :
    StillPost (SetOf F g s.ob) w g s.ob key (part agg sz off (rd s x)) ((execOp ({ tmps := tmps, defers := ds } : Act).eval o).run P w) := by
  unfold cFld at hc
  split at hc
  · rename_i t y f he
    simp only [Bool.and_eq_true] at hc
    obtain ⟨hs, hty⟩ := hc
    cases hf : fieldOf P t f with
    | none => rw [hf] at hty; cases hty
    | some fd =>
      rw [hf] at hty
      simp only [Bool.and_eq_true, beq_iff_eq] at hty
      obtain ⟨hoff, hagg, hsz⟩ := hty
      obtain ⟨fs, hu, hfs⟩ := fieldOf_eq hf
      have hv := h.src (ds := ds) hs
      revert hok hag
      generalize rd s x = a at hv
      intro hok hag
      cases a <;> simp [AV.isAgg] at hag
      rename_i as
      simp only [SR, SR1] at hv
      generalize hev : ({ tmps := tmps, defers := ds } : Act).eval y = v at hv
      cases hv with
      | @agg cs _ hn hat hr =>
        cases agg with
        | false =>
          have hok' : off < as.length := of_decide_eq_true hok
          obtain ⟨u, hg, hgu⟩ := arr_getD (cs := cs) (j := off) (by rw [hn]; exact hok')
          have hr' := hr off hok'
          rw [hgu] at hr'
          exact .val (v := u) (by simp [execOp, he, Instr.field, hev, run_underlying hu, hfs, asAgg, Go.part, hoff, run_aggO hagg, hg]) rfl hr'.toSR
        | true =>
          have hle : off + sz ≤ as.length := of_decide_eq_true (Bool.and_eq_true_iff.1 (show ((AV.agg as).isAgg && decide (off + sz ≤ (AV.agg as).cells.length)) = true from hok)).2
          simp only [part, AV.cells]
          refine .val (v := .agg (cs.extract off (off + sz))) (by simp [execOp, he, Instr.field, hev, run_underlying hu, hfs, asAgg, Go.part, hoff, run_aggO hagg, run_szT hsz]) rfl (VR.toSR ?_)
          have hget : ∀ j, j < sz → (cs.extract off (off + sz)).getD j undef = cs.getD (off + j) undef := by
            intro j hj
            rw [Array.getD_eq_getD_getElem?, Array.getD_eq_getD_getElem?, Array.getElem?_extract, if_pos (by omega)]
          have hxs : (cs.extract off (off + sz)).size = sz := by simp; omega
          rw [cond_eq_if]
          split
          · rename_i he2
            simp only [Bool.and_eq_true, beq_iff_eq] at he2
            obtain ⟨h0, h1⟩ := he2
            subst h0
            refine .agg (by rw [hxs, h1]) hat fun j hj => ?_
            rw [hget j (by omega), Nat.zero_add]; exact hr j hj
          · have hd : ∀ j, j < sz → ((as.drop off).take sz).getD j .any = as.getD (off + j) .any := by
              intro j hj
              simp [List.getD_eq_getElem?_getD, List.getElem?_take, List.getElem?_drop, hj]
            have hlen : ((as.drop off).take sz).length = sz := by simp; omega
            refine .agg (by rw [hxs, hlen]) (fun j hj => ?_) fun j hj => ?_
            · rw [hd j (by omega)]; exact hat _ (by omega)
            · rw [hd j (by omega), hget j (by omega)]; exact hr _ (by omega)
  · cases hc

end
end Go.Proofs.YtbobhejdijcofaaGreatDoor
