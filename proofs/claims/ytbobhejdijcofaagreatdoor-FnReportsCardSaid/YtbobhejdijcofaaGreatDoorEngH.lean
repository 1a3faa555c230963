/- The rest of the operations that write nothing that was there. No condition. -/
import Derived.Test.YtbobhejdijcofaaGreatDoorEngF
namespace Go.Proofs.YtbobhejdijcofaaGreatDoor
open Go Go.RowKit
set_option linter.unusedSimpArgs false
set_option linter.unusedVariables false

section
variable {F : Nat → Prop} {g : Gh} {w : World} {tmps : Array Value} {ds : List Deferred} {vm ss : List Nat} {s : St} {P : Program} {o : Oper} {key : Nat}

theorem eqGuard_int (P : Program) (w : World) (op : BinOp) (t : TypeId) (x y : Operand) (k j : IntKind) (a b : Int) : (eqGuard op t x y (.int k a) (.int j b)).run P w = .ok () w := by
  unfold eqGuard; cases op <;> simp
theorem eqGuard_bool (P : Program) (w : World) (op : BinOp) (t : TypeId) (x y : Operand) (a b : Bool) : (eqGuard op t x y (.bool a) (.bool b)).run P w = .ok () w := by
  unfold eqGuard; cases op <;> simp
theorem eqGuard_str (P : Program) (w : World) (op : BinOp) (t : TypeId) (x y : Operand) (a b : ByteArray) : (eqGuard op t x y (.string a) (.string b)).run P w = .ok () w := by
  unfold eqGuard; cases op <;> simp

theorem intB_run (P : Program) (w : World) (t : TypeId) (op : BinOp) (k : IntKind) (x y : Int) (hok : (intB op k x y).ok = true) :
    ∃ v, (binOp op t (.int k x) (.int k y)).run P w = .ok v w ∧ ∀ S, VR S w v (intB op k x y).v := by
  cases op <;> simp only [intB, just, when, bad] at hok ⊢ <;> try (cases hok; done)
  case add => exact ⟨.int k (k.wrap (x + y)), by simp [binOp, Op.intArith], fun _ => .int⟩
  case sub => exact ⟨.int k (k.wrap (x - y)), by simp [binOp, Op.intArith], fun _ => .int⟩
  case mul => exact ⟨.int k (k.wrap (x * y)), by simp [binOp, Op.intArith], fun _ => .int⟩
  case quo =>
    have h0 : y ≠ 0 := by simpa [nz] using hok
    exact ⟨.int k (k.wrap (x.tdiv y)), by simp [binOp, Op.intDiv, h0], fun _ => .int⟩
  case rem =>
    have h0 : y ≠ 0 := by simpa [nz] using hok
    exact ⟨.int k (x.tmod y), by simp [binOp, Op.intDiv, h0], fun _ => .int⟩
  case and => exact ⟨_, by simp only [binOp, Op.intBits]; simp only [ne_eq, not_true, if_false]; rfl, fun _ => .int⟩
  case or => exact ⟨_, by simp only [binOp, Op.intBits]; simp only [ne_eq, not_true, if_false]; rfl, fun _ => .int⟩
  case xor => exact ⟨_, by simp only [binOp, Op.intBits]; simp only [ne_eq, not_true, if_false]; rfl, fun _ => .int⟩
  case andNot => exact ⟨_, by simp only [binOp, Op.intBits]; simp only [ne_eq, not_true, if_false]; rfl, fun _ => .int⟩
  case eql => exact ⟨.bool (x == y), by simp [binOp, Op.intCmp], fun _ => .bool⟩
  case neq => exact ⟨.bool (!(x == y)), by simp [binOp, Op.intCmp, bne], fun _ => .bool⟩
  case lss => exact ⟨.bool (decide (x < y)), by simp [binOp, Op.intCmp], fun _ => .bool⟩
  case leq => exact ⟨.bool (decide (x ≤ y)), by simp [binOp, Op.intCmp], fun _ => .bool⟩
  case gtr => exact ⟨.bool (decide (y < x)), by simp [binOp, Op.intCmp], fun _ => .bool⟩
  case geq => exact ⟨.bool (decide (y ≤ x)), by simp [binOp, Op.intCmp], fun _ => .bool⟩

theorem shB_run (P : Program) (w : World) (t : TypeId) (op : BinOp) (k j : IntKind) (x y : Int) (hok : (shB op k x y).ok = true) :
    ∃ v, (binOp op t (.int k x) (.int j y)).run P w = .ok v w ∧ ∀ S, VR S w v (shB op k x y).v := by
  cases op <;> simp only [shB, just, when, bad, shOk, decide_eq_true_eq] at hok ⊢ <;> try (cases hok; done)
  case shl =>
    have h0 : ¬ y < 0 := by omega
    exact ⟨.int k (k.wrap (x * 2 ^ (min y.toNat k.bits))), by simp [binOp, Op.shift, h0], fun _ => .int⟩
  case shr =>
    have h0 : ¬ y < 0 := by omega
    exact ⟨.int k (x.fdiv (2 ^ (min y.toNat k.bits))), by simp [binOp, Op.shift, h0], fun _ => .int⟩

theorem bytes_app (x y : List UInt8) : (⟨x.toArray⟩ : ByteArray) ++ ⟨y.toArray⟩ = ⟨(x ++ y).toArray⟩ := by
  apply ByteArray.ext
  simp

theorem strB_run (P : Program) (w : World) (t : TypeId) (op : BinOp) (x y : List UInt8) (hok : (strB op x y).ok = true) :
    ∃ v, (binOp op t (.string ⟨x.toArray⟩) (.string ⟨y.toArray⟩)).run P w = .ok v w ∧ ∀ S, VR S w v (strB op x y).v := by
  cases op <;> simp only [strB, just, when, bad] at hok ⊢ <;> try (cases hok; done)
  case add =>
    have hle : x.length + y.length ≤ 9223372036854775807 := of_decide_eq_true hok
    have hn : ¬ (((⟨x.toArray⟩ : ByteArray).size + (⟨y.toArray⟩ : ByteArray).size : Nat) : Int) > IntKind.i64.max := by
      rw [size_mk, size_mk]
      have : IntKind.i64.max = 9223372036854775807 := by decide
      omega
    refine ⟨.string ⟨(x ++ y).toArray⟩, ?_, fun _ => .str⟩
    simp only [binOp, Op.stringOp]
    rw [if_neg hn, bytes_app]
    rfl
  case eql => exact ⟨.bool (x == y), by simp [binOp, Op.stringOp], fun _ => .bool⟩
  case neq => exact ⟨.bool (!(x == y)), by simp [binOp, Op.stringOp], fun _ => .bool⟩
  case lss => exact ⟨.bool (Op.bytesLess x y), by simp [binOp, Op.stringOp], fun _ => .bool⟩
  case leq => exact ⟨.bool (Op.bytesLess x y || x == y), by simp [binOp, Op.stringOp], fun _ => .bool⟩
  case gtr => exact ⟨.bool (!(Op.bytesLess x y || x == y)), by simp [binOp, Op.stringOp], fun _ => .bool⟩
  case geq => exact ⟨.bool (!Op.bytesLess x y), by simp [binOp, Op.stringOp], fun _ => .bool⟩

def boolT (P : Program) (t : TypeId) : Bool :=
  match P.underlying t with
  | some .bool => true
  | _ => false

theorem boolT_eq {P : Program} {t : TypeId} (h : boolT P t = true) : P.underlying t = some .bool := by
  unfold boolT at h; split at h
  · assumption
  · cases h

/-- The type that an operation on two values is at matters for bools alone. -/
def cBin (P : Program) (vm ss : List Nat) (bl : Bool) (u : BinOp) (x y : Src) : Op → Bool
  | .binOp u' t a b _ => chkSrc vm ss a x && (chkSrc vm ss b y && (u == u' && (!bl || boolT P t)))
  | _ => false

theorem eqv_bool (P : Program) (w : World) (t : TypeId) (hu : P.underlying t = some .bool) (x y : Bool) (n : Nat) : (Op.equalIn (n + 1) t (.bool x) (.bool y)).run P w = .ok (x == y) w := by
  simp [Op.equalIn, run_underlying hu]

theorem s_bin (h : FR F g w tmps vm ss s) {bl : Bool} {u : BinOp} {x y : Src} (hc : cBin P vm ss bl u x y o.op = true) (hok : (binA bl u (rd s x) (rd s y)).ok = true) :
    StillPost (SetOf F g s.ob) w g s.ob key (binA bl u (rd s x) (rd s y)) ((execOp ({ tmps := tmps, defers := ds } : Act).eval o).run P w) := by
  unfold cBin at hc
  split at hc
  · rename_i u' t a b yt he
    simp only [Bool.and_eq_true, beq_iff_eq] at hc
    obtain ⟨hsx, hsy, hu, hty⟩ := hc
    subst hu
    have hvx := h.src (ds := ds) hsx
    have hvy := h.src (ds := ds) hsy
    revert hok
    generalize rd s x = ax at hvx
    generalize rd s y = ay at hvy
    intro hok
    cases ax <;> cases ay <;> simp only [binA, bad] at hok <;> try (cases hok; done)
    case int.int k n j m =>
      have e1 := sr_int hvx
      have e2 := sr_int hvy
      rw [cond_eq_if] at hok
      simp only [binA, cond_eq_if]
      split
      · rename_i hsh
        rw [if_pos hsh] at hok
        obtain ⟨v, hr, hv⟩ := shB_run P w t u k j n m hok
        exact .val (v := v) (by simp [execOp, he, e1, e2, eqGuard_int, hr]) (by cases u <;> rfl) (hv _).toSR
      · rename_i hsh
        rw [if_neg hsh] at hok
        simp only [also, Bool.and_eq_true, beq_iff_eq] at hok
        obtain ⟨hk, hok⟩ := hok
        subst hk
        obtain ⟨v, hr, hv⟩ := intB_run P w t u k n m hok
        exact .val (v := v) (by simp [execOp, he, e1, e2, eqGuard_int, hr]) (by cases u <;> rfl) (hv _).toSR
    case str.str l m =>
      have e1 := sr_str hvx
      have e2 := sr_str hvy
      obtain ⟨v, hr, hv⟩ := strB_run P w t u l m hok
      exact .val (v := v) (by simp [execOp, he, e1, e2, eqGuard_str, hr]) (by cases u <;> rfl) (hv _).toSR
    case bool.bool p q =>
      have e1 := sr_bool hvx
      have e2 := sr_bool hvy
      simp only [also, Bool.and_eq_true] at hok
      obtain ⟨hbl, hok⟩ := hok
      subst hbl
      have hbt := boolT_eq (by simpa using hty)
      have hq := eqv_bool P w t hbt p q 9999
      simp only [binA, also, Bool.true_and]
      cases u <;> simp only [boolB, bad] at hok <;> try (cases hok; done)
      case eql => exact .val (v := .bool (p == q)) (by simp [execOp, he, e1, e2, eqGuard_bool, binOp, Op.equal, Op.maxDepth, hq]) rfl (VR.toSR .bool)
      case neq => exact .val (v := .bool (!(p == q))) (by simp [execOp, he, e1, e2, eqGuard_bool, binOp, Op.equal, Op.maxDepth, hq]) rfl (VR.toSR .bool)
  · cases hc

/-! ### Cutting -/

theorem run_bound (P : Program) (w : World) {k : IntKind} {n : Int} {y : Nat} (c : BoundsCode) (h0 : 0 ≤ n) (h1 : n ≤ (y : Int)) : (Instr.sliceBound (.int k n) y c).run P w = .ok n.toNat w := by
  simp [Instr.sliceBound, asIntOf, h0, h1]

theorem drop_take_cut {α : Type} (l : List α) (a b : Nat) : (l.take b).drop a = (l.drop a).take (b - a) := by
  rw [List.drop_take]

/-- The bounds of a cut, as the code reckons them. -/
theorem bounds_run (P : Program) (w : World) {isS : Bool} {len cap : Nat} {lo hi : Option Value} {a b : Int} (hlo : match lo with | some v => ∃ k, v = .int k a | none => a = 0)
    (hhi : match hi with | some v => ∃ k, v = .int k b | none => b = (len : Int)) (h0 : 0 ≤ a) (hab : a ≤ b) (hb : b ≤ (cap : Int)) :
    (Instr.sliceBounds isS len cap lo hi none).run P w = .ok (a.toNat, b.toNat, cap) w := by
  have e : ((b.toNat : Nat) : Int) = b := by omega
  cases lo with
  | none =>
    simp only at hlo; subst hlo
    cases hi with
    | none => simp only at hhi; subst hhi; simp [Instr.sliceBounds]
    | some v =>
      obtain ⟨k, rfl⟩ := hhi
      cases isS <;> simp [Instr.sliceBounds, run_bound P w _ (by omega : (0 : Int) ≤ b) hb]
  | some u =>
    obtain ⟨j, rfl⟩ := hlo
    cases hi with
    | none =>
      simp only at hhi; subst hhi
      simp [Instr.sliceBounds, run_bound P w _ h0 hab]
    | some v =>
      obtain ⟨k, rfl⟩ := hhi
      have hb2 : a ≤ ((b.toNat : Nat) : Int) := by omega
      cases isS <;> simp [Instr.sliceBounds, run_bound P w _ (by omega : (0 : Int) ≤ b) hb, run_bound P w _ h0 hb2]

theorem opt_bound (h : FR F g w tmps vm ss s) {l : Option Operand} {lo : Option Src} (hc : chkO vm ss l lo = true) {d : Int} (h0 : 0 ≤ idxOr d (lo.map (rd s))) :
    match l.map ({ tmps := tmps, defers := ds } : Act).eval with | some v => ∃ k, v = .int k (idxOr d (lo.map (rd s))) | none => idxOr d (lo.map (rd s)) = d := by
  cases l <;> cases lo <;> simp [chkO] at hc
  · rfl
  · simp only [Option.map_some, idxOr] at h0 ⊢
    exact sr_idx (h.src (ds := ds) hc) h0

theorem getD_drop_take {els : List AV} {a b i : Nat} (hi : i < b - a) : ((els.take b).drop a).getD i .any = els.getD (a + i) .any := by
  rw [List.getD_eq_getElem?_getD, List.getD_eq_getElem?_getD, List.getElem?_drop, List.getElem?_take, if_pos (by omega)]

theorem s_slice (h : FR F g w tmps vm ss s) {sz : Nat} {x : Src} {lo hi : Option Src} (hc : cSlice P vm ss sz x lo hi o.op = true) (hok : (sliceA sz (lo.map (rd s)) (hi.map (rd s)) (rd s x)).ok = true) :
    StillPost (SetOf F g s.ob) w g s.ob key (sliceA sz (lo.map (rd s)) (hi.map (rd s)) (rd s x)) ((execOp ({ tmps := tmps, defers := ds } : Act).eval o).run P w) := by
  unfold cSlice at hc
  split at hc
  · rename_i t y l hh he
    simp only [Bool.and_eq_true] at hc
    obtain ⟨hs, hl, hhh, hty⟩ := hc
    have hv := h.src (ds := ds) hs
    revert hok
    generalize rd s x = a at hv
    intro hok
    cases a <;> simp only [sliceA, bad] at hok <;> try (cases hok; done)
    case str cs =>
      have hev := sr_str hv
      simp only [sliceA, when, cutOk, Bool.and_eq_true, beq_iff_eq, decide_eq_true_eq] at hok ⊢
      obtain ⟨hz, h0, hab, hb⟩ := hok
      have hstr : strT P t = true := by
        simp only [Bool.or_eq_true, Bool.and_eq_true] at hty
        rcases hty with hty | hty
        · exact hty.1
        · split at hty
          · simp [hz] at hty
          · cases hty
      have hu := strT_eq hstr
      have hb1 := opt_bound (ds := ds) h hl h0
      have hb2 := opt_bound (ds := ds) h hhh (d := (cs.length : Int)) (by omega)
      refine .val (v := .string ⟨(cut cs (idxOr 0 (lo.map (rd s))) (idxOr cs.length (hi.map (rd s)))).toArray⟩) ?_ rfl (VR.toSR .str)
      have hrun := bounds_run P w (isS := false) (len := cs.length) (cap := cs.length) hb1 hb2 h0 hab hb
      simp [execOp, he, Instr.sliceAt, Instr.slice, run_underlying hu, hev, size_mk, hrun, ByteArray.extract_mk, cut, drop_take_cut]
    case sl sz0 els =>
      simp only [SR, SR1] at hv
      generalize hev : ({ tmps := tmps, defers := ds } : Act).eval y = v at hv
      cases hv with
      | @sl ad n cap _ _ b off r hn hcap hsz0 ha hcl hw hr =>
        simp only [sliceA, when, cutOk, Bool.and_eq_true, beq_iff_eq, decide_eq_true_eq] at hok ⊢
        obtain ⟨hz, h0, hab, hb⟩ := hok
        subst hz
        have hslt : ∃ e, slT P t = some e ∧ szT P e = some sz0 := by
          simp only [Bool.or_eq_true, Bool.and_eq_true, beq_iff_eq] at hty
          rcases hty with hty | hty
          · omega
          · split at hty
            · rename_i e he2
              simp only [Bool.and_eq_true, beq_iff_eq] at hty
              exact ⟨e, he2, hty.1⟩
            · cases hty
        obtain ⟨e, hsl, hsz⟩ := hslt
        have hu := slT_eq hsl
        have hb1 := opt_bound (ds := ds) h hl h0
        have hb2 := opt_bound (ds := ds) h hhh (d := (els.length : Int)) (by omega)
        subst hn
        have hrun := bounds_run P w (isS := true) (len := els.length) (cap := cap) hb1 hb2 h0 hab (by omega)
        generalize hA : idxOr 0 (lo.map (rd s)) = A at *
        generalize hB : idxOr (els.length : Int) (hi.map (rd s)) = B at *
        refine .val (v := .slice (if cap = A.toNat then ad else ad.map (·.add (A.toNat * sz0))) (B.toNat - A.toNat) (cap - A.toNat)) ?_ rfl (VR.toSR ?_)
        · simp [execOp, he, Instr.sliceAt, Instr.slice, run_underlying hu, hev, hrun, run_szT hsz]
        · have hlen : ((els.take B.toNat).drop A.toNat).length = B.toNat - A.toNat := by simp; omega
          refine .sl b (off + A.toNat * sz0) (fun i j => r (A.toNat + i) j) (by rw [cut]; exact hlen.symm) (by omega) hsz0 (fun hp => ?_) (fun i hi => ?_) (fun i j hi hj => ?_) fun i j hi hj => ?_
          · rw [cut, hlen] at hp
            obtain ⟨rfl, hns⟩ := ha (by omega)
            rw [if_neg (by omega)]
            exact ⟨by simp [add_plain], hns⟩
          · rw [cut, hlen] at hi; rw [cut, getD_drop_take hi]; exact hcl _ (by omega)
          · rw [cut, hlen] at hi
            have := hw (A.toNat + i) j (by omega) hj
            rw [show off + A.toNat * sz0 + (i * sz0 + j) = off + ((A.toNat + i) * sz0 + j) by rw [Nat.add_mul]; omega]
            exact this
          · rw [cut, hlen] at hi; rw [cut, getD_drop_take hi]; exact hr _ _ (by omega) hj
    case nilsl =>
      have hev := sr_nil hv
      simp only [sliceA, when, cutOk, Bool.and_eq_true, Bool.not_eq_true', beq_eq_false_iff_ne, decide_eq_true_eq] at hok ⊢
      obtain ⟨hz, h0, hab, hb⟩ := hok
      have hslt : ∃ e, slT P t = some e ∧ szT P e = some sz := by
        simp only [Bool.or_eq_true, Bool.and_eq_true, beq_iff_eq] at hty
        rcases hty with hty | hty
        · exact absurd hty.2 hz
        · split at hty
          · rename_i e he2
            simp only [Bool.and_eq_true, beq_iff_eq] at hty
            exact ⟨e, he2, hty.1⟩
          · cases hty
      obtain ⟨e, hsl, hsz⟩ := hslt
      have hu := slT_eq hsl
      have hb1 := opt_bound (ds := ds) h hl h0
      have hb2 := opt_bound (ds := ds) h hhh (d := 0) (by omega)
      have hrun := bounds_run P w (isS := true) (len := 0) (cap := 0) hb1 hb2 h0 hab hb
      have hA : idxOr 0 (lo.map (rd s)) = 0 := by omega
      have hB : idxOr 0 (hi.map (rd s)) = 0 := by omega
      rw [hA, hB] at hrun
      exact .val (v := .slice none 0 0) (by simp [execOp, he, Instr.sliceAt, Instr.slice, run_underlying hu, hev, hrun, run_szT hsz]) rfl (VR.toSR .nilsl)
  · cases hc

end

open Go Go.RowKit
set_option linter.unusedSimpArgs false
set_option linter.unusedVariables false

section
variable {F : Nat → Prop} {g : Gh} {w : World} {tmps : Array Value} {ds : List Deferred} {vm ss : List Nat} {s : St} {P : Program} {o : Oper} {key : Nat}

theorem chkL_len {vm ss : List Nat} : ∀ {xs : List Operand} {ys : List Src}, chkL vm ss xs ys = true → xs.length = ys.length
  | [], [], _ => rfl
  | [], _ :: _, h => by simp [chkL] at h
  | _ :: _, [], h => by simp [chkL] at h
  | a :: r, b :: q, h => by
    simp only [chkL, Bool.and_eq_true] at h
    simp [chkL_len h.2]

theorem chkL_get (h : FR F g w tmps vm ss s) : ∀ {xs : List Operand} {ys : List Src} (j : Nat), chkL vm ss xs ys = true → j < ys.length →
    SR (SetOf F g s.ob) w g s.ob ((xs.map ({ tmps := tmps, defers := ds } : Act).eval).getD j undef) ((ys.map (rd s)).getD j .any)
  | [], [], j, _, hj => by simp at hj
  | [], _ :: _, _, hc, _ => by simp [chkL] at hc
  | _ :: _, [], _, hc, _ => by simp [chkL] at hc
  | a :: r, b :: q, 0, hc, _ => by
    simp only [chkL, Bool.and_eq_true] at hc
    exact h.src hc.1
  | a :: r, b :: q, j + 1, hc, hj => by
    simp only [chkL, Bool.and_eq_true] at hc
    simpa using chkL_get h j hc.2 (by simpa using hj)

theorem SR.simple {S : Nat → Prop} {w : World} {g : Gh} {ob : Obs} {v : Value} {a : AV} (h : SR S w g ob v a) (ha : a.simple = true) : SR1 S w g ob v a := by
  cases a <;> first | exact h | (simp [AV.simple] at ha)

theorem mem_getD {l : List AV} {j : Nat} (hj : j < l.length) : l.getD j .any ∈ l := by
  rw [List.getD_eq_getElem?_getD, List.getElem?_eq_getElem hj]; exact List.getElem_mem hj

theorem toArray_getD (l : List Value) (j : Nat) : l.toArray.getD j undef = l.getD j undef := by
  rw [← getD_toList]

theorem s_mkFn (h : FR F g w tmps vm ss s) {f : Fn} {fi ca : List Src} (hc : cMkFn vm ss f fi ca o.op = true) (hok : ((fi.map (rd s) ++ ca.map (rd s)).all AV.simple) = true) :
    StillPost (SetOf F g s.ob) w g s.ob key (when ((fi.map (rd s) ++ ca.map (rd s)).all AV.simple) (.fn f (fi.map (rd s)) (ca.map (rd s)))) ((execOp ({ tmps := tmps, defers := ds } : Act).eval o).run P w) := by
  unfold cMkFn at hc
  split at hc
  · rename_i f' a b he
    simp only [Bool.and_eq_true, decide_eq_true_eq] at hc
    obtain ⟨hf, h1, h2⟩ := hc
    subst hf
    simp only [List.all_append, Bool.and_eq_true, List.all_eq_true] at hok
    refine .val (v := .func f (a.map ({ tmps := tmps, defers := ds } : Act).eval) (b.map ({ tmps := tmps, defers := ds } : Act).eval)) (by simp [execOp, he, Instr.makeFunc]) rfl ?_
    refine ⟨_, _, rfl, by simpa using chkL_len h1, by simpa using chkL_len h2, fun j hj => ?_, fun j hj => ?_⟩
    · rw [← getD_toList, Array.toList_map]
      exact (chkL_get h j h1 (by simpa using hj)).simple (hok.1 _ (mem_getD hj))
    · rw [← getD_toList, Array.toList_map]
      exact (chkL_get h j h2 (by simpa using hj)).simple (hok.2 _ (mem_getD hj))
  · cases hc

/-! ### make -/

theorem s_make (h : FR F g w tmps vm ss s) {sz bytes : Nat} {z : AV} {l c : Src} (hc : cMake P vm ss sz bytes z l c o.op = true) (hok : (makeA (keyOf key) sz bytes z (rd s l) (rd s c)).ok = true) (hp : 1 ≤ sz) :
    StillPost (SetOf F g s.ob) w g s.ob key (makeA (keyOf key) sz bytes z (rd s l) (rd s c)) ((execOp ({ tmps := tmps, defers := ds } : Act).eval o).run P w) := by
  unfold cMake at hc
  split at hc
  · rename_i t a b he
    simp only [Bool.and_eq_true] at hc
    obtain ⟨hs1, hs2, hty⟩ := hc
    split at hty
    · rename_i e hsl
      simp only [Bool.and_eq_true, beq_iff_eq] at hty
      obtain ⟨hsz, hby, hty⟩ := hty
      split at hty
      · rename_i zv hz
        simp only [Bool.and_eq_true, beq_iff_eq] at hty
        obtain ⟨hzz, hzl, hza⟩ := hty
        have hu := slT_eq hsl
        obtain ⟨i, hi, hib⟩ := byT_info hby
        have hv1 := h.src (ds := ds) hs1
        have hv2 := h.src (ds := ds) hs2
        revert hok
        generalize rd s l = al at hv1
        generalize rd s c = ac at hv2
        intro hok
        cases al <;> cases ac <;> simp only [makeA, bad] at hok <;> try (cases hok; done)
        case int.int k n k2 m =>
          simp only [makeA, mkOk, Bool.and_eq_true, beq_iff_eq, decide_eq_true_eq] at hok ⊢
          obtain ⟨hnm, h0, hb1, hb2⟩ := hok
          subst hnm
          have e1 := sr_int hv1
          have e2 := sr_int hv2
          have hn48 : n ≤ 281474976710656 := by
            have : n * 1 ≤ n * bytes := Int.mul_le_mul_of_nonneg_left (by omega) h0
            omega
          have hw : IntKind.i64.wrap n = n := IntWalk.i64_in n ⟨by omega, by omega⟩
          have hvc := (eqv_VR (S := SetOf F g s.ob) (w := w) hzz).cells hza
          have hzs : zv.cells.size = sz := by rw [hvc.1, hzl]
          have harr : ∃ arr : Array Value, arr.size = n.toNat * sz ∧ (∀ i j, i < n.toNat → j < sz → arr.getD (i * sz + j) undef = zv.cells.getD j undef) ∧
              (Instr.makeSlice t (.int k n) (.int k2 n)).run P w = .ok (.slice (some ⟨w.heap.size, 0, none⟩) n.toNat n.toNat) (w.alloc (.cells arr e)) := by
            have hc2 : ¬ (n * (bytes : Int) > 281474976710656) := by omega
            have hc3 : ¬ ((bytes : Int) * n > 281474976710656) := by rw [Int.mul_comm]; exact hc2
            refine ⟨(Array.range (n.toNat * sz)).map ((if n.toNat * sz = 0 then #[] else zv.cells)[· % (if n.toNat * sz = 0 then (#[] : Array Value) else zv.cells).size]!), by simp, fun i j hi hj => ?_, ?_⟩
            · have hlt : i * sz + j < n.toNat * sz := by
                have : (i + 1) * sz ≤ n.toNat * sz := Nat.mul_le_mul_right _ (by omega)
                rw [Nat.add_mul] at this; omega
              have hne : n.toNat * sz ≠ 0 := by omega
              have hmod : (i * sz + j) % sz = j := by rw [Nat.mul_comm, Nat.mul_add_mod]; exact Nat.mod_eq_of_lt hj
              rw [Array.getD_eq_getD_getElem?, Array.getElem?_eq_getElem (by simpa using hlt)]
              simp only [Array.getElem_map, Array.getElem_range, Option.getD_some, if_neg hne, hzs, hmod]
              rw [getElem!_pos zv.cells j (by omega), Array.getD_eq_getD_getElem?, Array.getElem?_eq_getElem (by omega)]; rfl
            · by_cases hz0 : n.toNat * sz = 0
              · simp [Instr.makeSlice, run_underlying hu, asInt, asIntOf, run_info hi, hib, hw, h0, hc3, run_szT hsz, hz0, newRow]
                omega
              · simp [Instr.makeSlice, run_underlying hu, asInt, asIntOf, run_info hi, hib, hw, h0, hc3, run_szT hsz, hz0, newRow, run_zeT hz]
                omega
          obtain ⟨arr, hasz, hget, hrun⟩ := harr
          refine ⟨.slice (some ⟨w.heap.size, 0, none⟩) n.toNat n.toNat, w.alloc (.cells arr e), by simp [execOp, he, e1, e2, hrun], Same.alloc _ _ _, .inr ⟨_, _, w.heap.size, n.toNat, rfl, by simp [keyOf], Nat.le_refl _, fun S' hS => ?_, .inl ⟨rfl, .inl (by simp)⟩⟩⟩
          refine ⟨hp, by simp, fun i hi => ?_, fun _ => ⟨arr, e, (0, 0), heap_alloc_new _ _, .inl rfl, hasz, fun i j hi hj => ?_⟩⟩
          · have : (List.replicate n.toNat z).getD i .any = z := by
              rw [List.getD_eq_getElem?_getD, List.getElem?_replicate, if_pos (by simpa using hi)]; rfl
            rw [this]; exact ⟨hzl, hza⟩
          · have hi' : i < n.toNat := by simpa using hi
            have : (List.replicate n.toNat z).getD i .any = z := by
              rw [List.getD_eq_getElem?_getD, List.getElem?_replicate, if_pos hi']; rfl
            rw [this, hget i j hi' hj]
            refine (hvc.2 j (by rw [hzl]; exact hj)).mono (Same.alloc _ _ _) fun b hb hc => ?_
            rcases hS b hc with e | e
            · exact e
            · omega
      · cases hty
    · cases hty
  · cases hc

/-! ### min, max -/

theorem foldMM_run (P : Program) (w : World) (mx : Bool) (k : IntKind) : ∀ (r : List AV) (vs : List Value) (n : Int), vs.length = r.length → (∀ j, j < r.length → ∃ m, r.getD j .any = .int k m ∧ vs.getD j undef = .int k m) →
    ∃ m, foldMM mx (.int k n) r = .int k m ∧ (vs.foldlM (bif mx then Builtin.max2 else Builtin.min2) (.int k n)).run P w = .ok (.int k m) w
  | [], [], n, _, _ => ⟨n, rfl, rfl⟩
  | [], _ :: _, _, hl, _ => by simp at hl
  | _ :: _, [], _, hl, _ => by simp at hl
  | a :: r, v :: vs, n, hl, h => by
    obtain ⟨m, ha, hv⟩ := h 0 (by simp)
    simp only [List.getD_cons_zero] at ha hv
    subst ha hv
    have ih := foldMM_run P w mx k r vs (bif mx then (if n < m then m else n) else (if m < n then m else n)) (by simpa using hl) (fun j hj => by simpa using h (j + 1) (by simpa using hj))
    obtain ⟨q, e1, e2⟩ := ih
    refine ⟨q, by simp only [foldMM, mm2]; exact e1, ?_⟩
    rw [List.foldlM_cons, Sem.run_bind]
    cases mx
    · simp only [cond_false] at e2 ⊢
      simp only [Builtin.min2, Sem.run_pure, Result.andThen_ok]
      exact e2
    · simp only [cond_true] at e2 ⊢
      simp only [Builtin.max2, Sem.run_pure, Result.andThen_ok]
      exact e2

theorem s_mm (h : FR F g w tmps vm ss s) {mx : Bool} {xs : List Src} (hc : cMM vm ss mx xs o.op = true) (hok : (mmA mx (xs.map (rd s))).ok = true) :
    StillPost (SetOf F g s.ob) w g s.ob key (mmA mx (xs.map (rd s))) ((execOp ({ tmps := tmps, defers := ds } : Act).eval o).run P w) := by
  unfold cMM at hc
  split at hc
  · rename_i b args tys he
    simp only [Bool.and_eq_true] at hc
    obtain ⟨hl, hb⟩ := hc
    cases xs with
    | nil => simp [mmA, bad] at hok
    | cons x xs =>
      obtain ⟨args⟩ := args
      simp only at hl
      cases args with
      | nil => simp [chkL] at hl
      | cons a args =>
        simp only [chkL, Bool.and_eq_true] at hl
        have hv := h.src (ds := ds) hl.1
        simp only [List.map_cons] at hok ⊢
        revert hok
        generalize rd s x = ax at hv
        intro hok
        cases ax <;> simp only [mmA, bad] at hok <;> try (cases hok; done)
        case int k n =>
          have e1 := sr_int hv
          simp only [mmA, when, List.all_eq_true] at hok ⊢
          have hlen := chkL_len hl.2
          obtain ⟨m, e2, e3⟩ := foldMM_run P w mx k (xs.map (rd s)) (args.map ({ tmps := tmps, defers := ds } : Act).eval) n (by simpa using hlen) (fun j hj => by
            have hsr := chkL_get (ds := ds) h j hl.2 (by simpa using hj)
            have hk := hok _ (mem_getD hj)
            revert hk hsr
            generalize (xs.map (rd s)).getD j .any = q
            intro hsr hk
            cases q <;> simp [kindIs] at hk
            subst hk
            exact ⟨_, rfl, sr_int hsr⟩)
          rw [e2]
          refine .val (v := .int k m) ?_ rfl (VR.toSR .int)
          cases mx <;> cases b <;> simp at hb <;> simp [execOp, he, resolve, invoke, builtin, Builtin.min_, Builtin.max_, e1] <;> simp only [cond_false, cond_true] at e3 <;> simp [e3]
  · cases hc

/-! ### Structs are compared -/

def kindT (P : Program) (t : TypeId) : Nat :=
  match P.underlying t with
  | some .bool => 0
  | some (.int _) => 1
  | some .string => 2
  | _ => 9

def fldOk (P : Program) : Nat → List Nat → List Field → Bool
  | n, k :: ks, f :: fs => (f.name != "_") && ((f.offset == n) && ((k == kindT P f.type) && (Nat.ble k 2 && (aggO P f.type == some false && fldOk P (n + 1) ks fs))))
  | _, [], [] => true
  | _, _, _ => false

def eqT (P : Program) (ks : List Nat) (t : TypeId) : Bool :=
  (match P.underlying t with | some (.struct _) => true | _ => false) && (!P.stoodInHeld t && (!P.eqGuardType P.depth t && fldOk P 0 ks (P.fieldsOf t).toList))

def cEqA (P : Program) (vm ss : List Nat) (neg : Bool) (ks : List Nat) (x y : Src) : Op → Bool
  | .binOp u t a b _ => chkSrc vm ss a x && (chkSrc vm ss b y && ((match u with | .eql => !neg | .neq => neg | _ => false) && eqT P ks t))
  | _ => false

theorem eqFields_run (P : Program) (w : World) (S : Nat → Prop) (d : Nat) (xs ys : Array Value) : ∀ (n : Nat) (ks : List Nat) (fs : List Field) (a b : List AV), fldOk P n ks fs = true → eqCellsOk ks a b = true →
    (∀ j, j < a.length → n + j < xs.size ∧ VR S w (xs.getD (n + j) undef) (a.getD j .any)) → (∀ j, j < b.length → n + j < ys.size ∧ VR S w (ys.getD (n + j) undef) (b.getD j .any)) →
    (Op.eqFields (d + 1) xs ys fs).run P w = .ok (eqCells a b) w
  | _, [], [], a, b, _, hok, _, _ => by
    cases a <;> cases b <;> simp [eqCellsOk] at hok
    simp [Op.eqFields, eqCells]
  | _, [], _ :: _, _, _, hf, _, _, _ => by simp [fldOk] at hf
  | _, _ :: _, [], _, _, hf, _, _, _ => by simp [fldOk] at hf
  | n, k :: ks, f :: fs, a, b, hf, hok, hx, hy => by
    cases a with
    | nil => simp [eqCellsOk] at hok
    | cons p r =>
      cases b with
      | nil => simp [eqCellsOk] at hok
      | cons q t =>
        simp only [fldOk, Bool.and_eq_true, bne_iff_ne, beq_iff_eq] at hf
        obtain ⟨hname, hoff, hk, hk2, hagg, hrest⟩ := hf
        simp only [eqCellsOk, Bool.and_eq_true] at hok
        have ih := eqFields_run P w S d xs ys (n + 1) ks fs r t hrest hok.2 (fun j hj => by have := hx (j + 1) (by simpa using hj); rw [Nat.add_assoc, Nat.add_comm 1 j]; simpa using this) (fun j hj => by have := hy (j + 1) (by simpa using hj); rw [Nat.add_assoc, Nat.add_comm 1 j]; simpa using this)
        have h1 := hx 0 (by simp)
        have h2 := hy 0 (by simp)
        simp only [Nat.add_zero, List.getD_cons_zero] at h1 h2
        obtain ⟨u1, g1, gu1⟩ := arr_getD h1.1
        obtain ⟨u2, g2, gu2⟩ := arr_getD h2.1
        rw [gu1] at h1
        rw [gu2] at h2
        have hp1 : (Go.part f.type xs f.offset).run P w = .ok u1 w := by simp [Go.part, run_aggO hagg, hoff, g1]
        have hp2 : (Go.part f.type ys f.offset).run P w = .ok u2 w := by simp [Go.part, run_aggO hagg, hoff, g2]
        have heq : (Op.equalIn (d + 1) f.type u1 u2).run P w = .ok (eq1 p q) w := by
          have hok1 := hok.1
          cases p <;> cases q <;> simp only [eq1Ok] at hok1 <;> try (cases hok1; done)
          case int.int k1 x1 k2 x2 =>
            simp only [Bool.and_eq_true, beq_iff_eq] at hok1
            obtain ⟨rfl, rfl⟩ := hok1
            cases h1.2; cases h2.2
            have : ∃ kk, P.underlying f.type = some (.int kk) := by
              unfold kindT at hk; split at hk <;> simp at hk; exact ⟨_, by assumption⟩
            obtain ⟨kk, hu⟩ := this
            exact run_equalIn_int w d f.type k1 kk x1 x2 hu
          case bool.bool x1 x2 =>
            simp only [beq_iff_eq] at hok1
            subst hok1
            cases h1.2; cases h2.2
            have hu : P.underlying f.type = some .bool := by
              unfold kindT at hk; split at hk <;> simp at hk; assumption
            exact run_equalIn_bool' w d f.type x1 x2 hu
          case str.str x1 x2 =>
            simp only [beq_iff_eq] at hok1
            subst hok1
            cases h1.2; cases h2.2
            have hu : P.underlying f.type = some .string := by
              unfold kindT at hk; split at hk <;> simp at hk; assumption
            have := run_equalIn_string w d f.type (⟨x1.toArray⟩ : ByteArray) ⟨x2.toArray⟩ hu
            simpa [eq1] using this
        simp only [Op.eqFields, Sem.run_ite, Sem.run_bind, if_pos hname, hp1, hp2, heq, Result.andThen_ok, eqCells]
        cases hE : eq1 p q
        · simp
        · simp [ih]

theorem s_eqA (h : FR F g w tmps vm ss s) {neg : Bool} {ks : List Nat} {x y : Src} (hc : cEqA P vm ss neg ks x y o.op = true) (hok : (cmpAgg neg ks (rd s x) (rd s y)).ok = true) :
    StillPost (SetOf F g s.ob) w g s.ob key (cmpAgg neg ks (rd s x) (rd s y)) ((execOp ({ tmps := tmps, defers := ds } : Act).eval o).run P w) := by
  unfold cEqA at hc
  split at hc
  · rename_i u t a b yt he
    simp only [Bool.and_eq_true] at hc
    obtain ⟨hs1, hs2, hu, hty⟩ := hc
    have hv1 := h.src (ds := ds) hs1
    have hv2 := h.src (ds := ds) hs2
    revert hok
    generalize rd s x = ax at hv1
    generalize rd s y = ay at hv2
    intro hok
    cases ax <;> cases ay <;> simp only [cmpAgg, bad] at hok <;> try (cases hok; done)
    case agg.agg p q =>
      simp only [SR, SR1] at hv1 hv2
      generalize e1 : ({ tmps := tmps, defers := ds } : Act).eval a = v1 at hv1
      generalize e2 : ({ tmps := tmps, defers := ds } : Act).eval b = v2 at hv2
      cases hv1 with
      | @agg xs _ n1 _ r1 =>
        cases hv2 with
        | @agg ys _ n2 _ r2 =>
          simp only [cmpAgg, when] at hok ⊢
          simp only [eqT, Bool.and_eq_true, Bool.not_eq_true'] at hty
          obtain ⟨hst, hsh, hg, hf⟩ := hty
          have hst' : P.underlying t = some (.struct (P.fieldsOf t)) := by
            unfold Program.fieldsOf
            split at hst
            · rename_i fs hfs; rw [hfs]
            · cases hst
          have hrun := eqFields_run P w (SetOf F g s.ob) 9998 xs ys 0 ks _ p q hf hok (fun j hj => by rw [Nat.zero_add]; exact ⟨by omega, r1 j hj⟩) (fun j hj => by rw [Nat.zero_add]; exact ⟨by omega, r2 j hj⟩)
          have hall := run_equalIn_struct (P := P) w 9999 t xs ys hst' hsh
          rw [hrun] at hall
          cases u <;> simp at hu
          · subst hu
            exact .val (v := .bool (eqCells p q)) (by simp [execOp, he, e1, e2, run_eqGuard_agg w .eql t a b xs ys hg, run_eql_struct, hall]) rfl (VR.toSR .bool)
          · subst hu
            exact .val (v := .bool (!eqCells p q)) (by simp [execOp, he, e1, e2, run_eqGuard_agg w .neq t a b xs ys hg, run_neq_struct, hall]) rfl (VR.toSR .bool)
  · cases hc

end

end Go.Proofs.YtbobhejdijcofaaGreatDoor
