/- More operations that write nothing that was there. No condition. -/
import Derived.Test.YtgbopjgnggdhkaaEngF
namespace Go.Proofs.Ytgbopjgnggdhkaa
open Go Go.RowKit
set_option linter.unusedSimpArgs false
set_option linter.unusedVariables false

section
variable {F : Nat → Prop} {g : Gh} {w : World} {tmps : Array Value} {ds : List Deferred} {vm ss : List Nat} {s : St} {P : Program} {o : Oper} {key : Nat}

theorem eqGuard_int (P : Program) (w : World) (op : BinOp) (t : TypeId) (x y : Operand) (k j : IntKind) (a b : Int) : (eqGuard op t x y (.int k a) (.int j b)).run P w = .ok () w := by
  unfold eqGuard; cases op <;> simp
theorem eqGuard_bool (P : Program) (w : World) (op : BinOp) (t : TypeId) (x y : Operand) (a b : Bool) : (eqGuard op t x y (.bool a) (.bool b)).run P w = .ok () w := by
  unfold eqGuard; cases op <;> simp
theorem eqGuard_str (P : Program) (w : World) (op : BinOp) (t : TypeId) (x y : Operand) (a b : ByteArray) : (eqGuard op t x y (.string a) (.string b)).run P w = .ok () w := by
  unfold eqGuard; cases op <;> simp

theorem intB_run (P : Program) (w : World) (t : TypeId) (op : BinOp) (k : IntKind) (x y : Int) (hok : (intB op k x y).ok = true) :
    ∃ v, (binOp op t (.int k x) (.int k y)).run P w = .ok v w ∧ ∀ S, VR S w v (intB op k x y).v := by
  cases op <;> simp only [intB, just, when, bad] at hok ⊢ <;> try (cases hok; done)
  case add => exact ⟨.int k (k.wrap (x + y)), by simp [binOp, Op.intArith], fun _ => .int⟩
  case sub => exact ⟨.int k (k.wrap (x - y)), by simp [binOp, Op.intArith], fun _ => .int⟩
  case mul => exact ⟨.int k (k.wrap (x * y)), by simp [binOp, Op.intArith], fun _ => .int⟩
  case quo =>
    have h0 : y ≠ 0 := by simpa [nz] using hok
    exact ⟨.int k (k.wrap (x.tdiv y)), by simp [binOp, Op.intDiv, h0], fun _ => .int⟩
  case rem =>
    have h0 : y ≠ 0 := by simpa [nz] using hok
    exact ⟨.int k (x.tmod y), by simp [binOp, Op.intDiv, h0], fun _ => .int⟩
  case and => exact ⟨_, by simp only [binOp, Op.intBits]; simp only [ne_eq, not_true, if_false]; rfl, fun _ => .int⟩
  case or => exact ⟨_, by simp only [binOp, Op.intBits]; simp only [ne_eq, not_true, if_false]; rfl, fun _ => .int⟩
  case xor => exact ⟨_, by simp only [binOp, Op.intBits]; simp only [ne_eq, not_true, if_false]; rfl, fun _ => .int⟩
  case andNot => exact ⟨_, by simp only [binOp, Op.intBits]; simp only [ne_eq, not_true, if_false]; rfl, fun _ => .int⟩
  case eql => exact ⟨.bool (x == y), by simp [binOp, Op.intCmp], fun _ => .bool⟩
  case neq => exact ⟨.bool (!(x == y)), by simp [binOp, Op.intCmp, bne], fun _ => .bool⟩
  case lss => exact ⟨.bool (decide (x < y)), by simp [binOp, Op.intCmp], fun _ => .bool⟩
  case leq => exact ⟨.bool (decide (x ≤ y)), by simp [binOp, Op.intCmp], fun _ => .bool⟩
  case gtr => exact ⟨.bool (decide (y < x)), by simp [binOp, Op.intCmp], fun _ => .bool⟩
  case geq => exact ⟨.bool (decide (y ≤ x)), by simp [binOp, Op.intCmp], fun _ => .bool⟩

theorem shB_run (P : Program) (w : World) (t : TypeId) (op : BinOp) (k j : IntKind) (x y : Int) (hok : (shB op k x y).ok = true) :
    ∃ v, (binOp op t (.int k x) (.int j y)).run P w = .ok v w ∧ ∀ S, VR S w v (shB op k x y).v := by
  cases op <;> simp only [shB, just, when, bad, shOk, decide_eq_true_eq] at hok ⊢ <;> try (cases hok; done)
  case shl =>
    have h0 : ¬ y < 0 := by omega
    exact ⟨.int k (k.wrap (x * 2 ^ (min y.toNat k.bits))), by simp [binOp, Op.shift, h0], fun _ => .int⟩
  case shr =>
    have h0 : ¬ y < 0 := by omega
    exact ⟨.int k (x.fdiv (2 ^ (min y.toNat k.bits))), by simp [binOp, Op.shift, h0], fun _ => .int⟩

theorem bytes_app (x y : List UInt8) : (⟨x.toArray⟩ : ByteArray) ++ ⟨y.toArray⟩ = ⟨(x ++ y).toArray⟩ := by
  apply ByteArray.ext
  simp

theorem strB_run (P : Program) (w : World) (t : TypeId) (op : BinOp) (x y : List UInt8) (hok : (strB op x y).ok = true) :
    ∃ v, (binOp op t (.string ⟨x.toArray⟩) (.string ⟨y.toArray⟩)).run P w = .ok v w ∧ ∀ S, VR S w v (strB op x y).v := by
  cases op <;> simp only [strB, just, when, bad] at hok ⊢ <;> try (cases hok; done)
  case add =>
    have hle : x.length + y.length ≤ 9223372036854775807 := of_decide_eq_true hok
    have hn : ¬ (((⟨x.toArray⟩ : ByteArray).size + (⟨y.toArray⟩ : ByteArray).size : Nat) : Int) > IntKind.i64.max := by
      rw [size_mk, size_mk]
      have : IntKind.i64.max = 9223372036854775807 := by decide
      omega
    refine ⟨.string ⟨(x ++ y).toArray⟩, ?_, fun _ => .str⟩
    simp only [binOp, Op.stringOp]
    rw [if_neg hn, bytes_app]
    rfl
  case eql => exact ⟨.bool (x == y), by simp [binOp, Op.stringOp], fun _ => .bool⟩
  case neq => exact ⟨.bool (!(x == y)), by simp [binOp, Op.stringOp], fun _ => .bool⟩
  case lss => exact ⟨.bool (Op.bytesLess x y), by simp [binOp, Op.stringOp], fun _ => .bool⟩
  case leq => exact ⟨.bool (Op.bytesLess x y || x == y), by simp [binOp, Op.stringOp], fun _ => .bool⟩
  case gtr => exact ⟨.bool (!(Op.bytesLess x y || x == y)), by simp [binOp, Op.stringOp], fun _ => .bool⟩
  case geq => exact ⟨.bool (!Op.bytesLess x y), by simp [binOp, Op.stringOp], fun _ => .bool⟩

def boolT (P : Program) (t : TypeId) : Bool :=
  match P.underlying t with
  | some .bool => true
  | _ => false

theorem boolT_eq {P : Program} {t : TypeId} (h : boolT P t = true) : P.underlying t = some .bool := by
  unfold boolT at h; split at h
  · assumption
  · cases h

/-- The type that an operation on two values is at matters for bools alone. -/
def cBin (P : Program) (vm ss : List Nat) (bl : Bool) (u : BinOp) (x y : Src) : Op → Bool
  | .binOp u' t a b _ => chkSrc vm ss a x && (chkSrc vm ss b y && (u == u' && (!bl || boolT P t)))
  | _ => false

theorem eqv_bool (P : Program) (w : World) (t : TypeId) (hu : P.underlying t = some .bool) (x y : Bool) (n : Nat) : (Op.equalIn (n + 1) t (.bool x) (.bool y)).run P w = .ok (x == y) w := by
  simp [Op.equalIn, run_underlying hu]

theorem s_bin (h : FR F g w tmps vm ss s) {bl : Bool} {u : BinOp} {x y : Src} (hc : cBin P vm ss bl u x y o.op = true) (hok : (binA bl u (rd s x) (rd s y)).ok = true) :
    StillPost (SetOf F g s.ob) w g s.ob key (binA bl u (rd s x) (rd s y)) ((execOp ({ tmps := tmps, defers := ds } : Act).eval o).run P w) := by
  unfold cBin at hc
  split at hc
  · rename_i u' t a b yt he
    simp only [Bool.and_eq_true, beq_iff_eq] at hc
    obtain ⟨hsx, hsy, hu, hty⟩ := hc
    subst hu
    have hvx := h.src (ds := ds) hsx
    have hvy := h.src (ds := ds) hsy
    revert hok
    generalize rd s x = ax at hvx
    generalize rd s y = ay at hvy
    intro hok
    cases ax <;> cases ay <;> simp only [binA, bad] at hok <;> try (cases hok; done)
    case int.int k n j m =>
      have e1 := sr_int hvx
      have e2 := sr_int hvy
      rw [cond_eq_if] at hok
      simp only [binA, cond_eq_if]
      split
      · rename_i hsh
        rw [if_pos hsh] at hok
        obtain ⟨v, hr, hv⟩ := shB_run P w t u k j n m hok
        exact .val (v := v) (by simp [execOp, he, e1, e2, eqGuard_int, hr]) (by cases u <;> rfl) (hv _).toSR
      · rename_i hsh
        rw [if_neg hsh] at hok
        simp only [also, Bool.and_eq_true, beq_iff_eq] at hok
        obtain ⟨hk, hok⟩ := hok
        subst hk
        obtain ⟨v, hr, hv⟩ := intB_run P w t u k n m hok
        exact .val (v := v) (by simp [execOp, he, e1, e2, eqGuard_int, hr]) (by cases u <;> rfl) (hv _).toSR
    case str.str l m =>
      have e1 := sr_str hvx
      have e2 := sr_str hvy
      obtain ⟨v, hr, hv⟩ := strB_run P w t u l m hok
      exact .val (v := v) (by simp [execOp, he, e1, e2, eqGuard_str, hr]) (by cases u <;> rfl) (hv _).toSR
    case bool.bool p q =>
      have e1 := sr_bool hvx
      have e2 := sr_bool hvy
      simp only [also, Bool.and_eq_true] at hok
      obtain ⟨hbl, hok⟩ := hok
      subst hbl
      have hbt := boolT_eq (by simpa using hty)
      have hq := eqv_bool P w t hbt p q 9999
      simp only [binA, also, Bool.true_and]
      cases u <;> simp only [boolB, bad] at hok <;> try (cases hok; done)
      case eql => exact .val (v := .bool (p == q)) (by simp [execOp, he, e1, e2, eqGuard_bool, binOp, Op.equal, Op.maxDepth, hq]) rfl (VR.toSR .bool)
      case neq => exact .val (v := .bool (!(p == q))) (by simp [execOp, he, e1, e2, eqGuard_bool, binOp, Op.equal, Op.maxDepth, hq]) rfl (VR.toSR .bool)
  · cases hc

/-! ### Cutting -/

theorem run_bound (P : Program) (w : World) {k : IntKind} {n : Int} {y : Nat} (c : BoundsCode) (h0 : 0 ≤ n) (h1 : n ≤ (y : Int)) : (Instr.sliceBound (.int k n) y c).run P w = .ok n.toNat w := by
  simp [Instr.sliceBound, asIntOf, h0, h1]

theorem drop_take_cut {α : Type} (l : List α) (a b : Nat) : (l.take b).drop a = (l.drop a).take (b - a) := by
  rw [List.drop_take]

/-- The bounds of a cut, as the code reckons them. -/
theorem bounds_run (P : Program) (w : World) {isS : Bool} {len cap : Nat} {lo hi : Option Value} {a b : Int} (hlo : match lo with | some v => ∃ k, v = .int k a | none => a = 0)
    (hhi : match hi with | some v => ∃ k, v = .int k b | none => b = (len : Int)) (h0 : 0 ≤ a) (hab : a ≤ b) (hb : b ≤ (cap : Int)) :
    (Instr.sliceBounds isS len cap lo hi none).run P w = .ok (a.toNat, b.toNat, cap) w := by
  have e : ((b.toNat : Nat) : Int) = b := by omega
  cases lo with
  | none =>
    simp only at hlo; subst hlo
    cases hi with
    | none => simp only at hhi; subst hhi; simp [Instr.sliceBounds]
    | some v =>
      obtain ⟨k, rfl⟩ := hhi
      cases isS <;> simp [Instr.sliceBounds, run_bound P w _ (by omega : (0 : Int) ≤ b) hb]
  | some u =>
    obtain ⟨j, rfl⟩ := hlo
    cases hi with
    | none =>
      simp only at hhi; subst hhi
      simp [Instr.sliceBounds, run_bound P w _ h0 hab]
    | some v =>
      obtain ⟨k, rfl⟩ := hhi
      have hb2 : a ≤ ((b.toNat : Nat) : Int) := by omega
      cases isS <;> simp [Instr.sliceBounds, run_bound P w _ (by omega : (0 : Int) ≤ b) hb, run_bound P w _ h0 hb2]

theorem opt_bound (h : FR F g w tmps vm ss s) {l : Option Operand} {lo : Option Src} (hc : chkO vm ss l lo = true) {d : Int} (h0 : 0 ≤ idxOr d (lo.map (rd s))) :
    match l.map ({ tmps := tmps, defers := ds } : Act).eval with | some v => ∃ k, v = .int k (idxOr d (lo.map (rd s))) | none => idxOr d (lo.map (rd s)) = d := by
  cases l <;> cases lo <;> simp [chkO] at hc
  · rfl
  · simp only [Option.map_some, idxOr] at h0 ⊢
    exact sr_idx (h.src (ds := ds) hc) h0

theorem getD_drop_take {els : List AV} {a b i : Nat} (hi : i < b - a) : ((els.take b).drop a).getD i .any = els.getD (a + i) .any := by
  rw [List.getD_eq_getElem?_getD, List.getD_eq_getElem?_getD, List.getElem?_drop, List.getElem?_take, if_pos (by omega)]

theorem s_slice (h : FR F g w tmps vm ss s) {sz : Nat} {x : Src} {lo hi : Option Src} (hc : cSlice P vm ss sz x lo hi o.op = true) (hok : (sliceA sz (lo.map (rd s)) (hi.map (rd s)) (rd s x)).ok = true) :
    StillPost (SetOf F g s.ob) w g s.ob key (sliceA sz (lo.map (rd s)) (hi.map (rd s)) (rd s x)) ((execOp ({ tmps := tmps, defers := ds } : Act).eval o).run P w) := by
  unfold cSlice at hc
  split at hc
  · rename_i t y l hh he
    simp only [Bool.and_eq_true] at hc
    obtain ⟨hs, hl, hhh, hty⟩ := hc
    have hv := h.src (ds := ds) hs
    revert hok
    generalize rd s x = a at hv
    intro hok
    cases a <;> simp only [sliceA, bad] at hok <;> try (cases hok; done)
    case str cs =>
      have hev := sr_str hv
      simp only [sliceA, when, cutOk, Bool.and_eq_true, beq_iff_eq, decide_eq_true_eq] at hok ⊢
      obtain ⟨hz, h0, hab, hb⟩ := hok
      have hstr : strT P t = true := by
        simp only [Bool.or_eq_true, Bool.and_eq_true] at hty
        rcases hty with hty | hty
        · exact hty.1
        · split at hty
          · simp [hz] at hty
          · cases hty
      have hu := strT_eq hstr
      have hb1 := opt_bound (ds := ds) h hl h0
      have hb2 := opt_bound (ds := ds) h hhh (d := (cs.length : Int)) (by omega)
      refine .val (v := .string ⟨(cut cs (idxOr 0 (lo.map (rd s))) (idxOr cs.length (hi.map (rd s)))).toArray⟩) ?_ rfl (VR.toSR .str)
      have hrun := bounds_run P w (isS := false) (len := cs.length) (cap := cs.length) hb1 hb2 h0 hab hb
      simp [execOp, he, Instr.sliceAt, Instr.slice, run_underlying hu, hev, size_mk, hrun, ByteArray.extract_mk, cut, drop_take_cut]
    case sl sz0 els =>
      simp only [SR, SR1] at hv
      generalize hev : ({ tmps := tmps, defers := ds } : Act).eval y = v at hv
      cases hv with
      | @sl ad n cap _ _ b off r hn hcap hsz0 ha hcl hw hr =>
        simp only [sliceA, when, cutOk, Bool.and_eq_true, beq_iff_eq, decide_eq_true_eq] at hok ⊢
        obtain ⟨hz, h0, hab, hb⟩ := hok
        subst hz
        have hslt : ∃ e, slT P t = some e ∧ szT P e = some sz0 := by
          simp only [Bool.or_eq_true, Bool.and_eq_true, beq_iff_eq] at hty
          rcases hty with hty | hty
          · omega
          · split at hty
            · rename_i e he2
              simp only [Bool.and_eq_true, beq_iff_eq] at hty
              exact ⟨e, he2, hty.1⟩
            · cases hty
        obtain ⟨e, hsl, hsz⟩ := hslt
        have hu := slT_eq hsl
        have hb1 := opt_bound (ds := ds) h hl h0
        have hb2 := opt_bound (ds := ds) h hhh (d := (els.length : Int)) (by omega)
        subst hn
        have hrun := bounds_run P w (isS := true) (len := els.length) (cap := cap) hb1 hb2 h0 hab (by omega)
        generalize hA : idxOr 0 (lo.map (rd s)) = A at *
        generalize hB : idxOr (els.length : Int) (hi.map (rd s)) = B at *
        refine .val (v := .slice (if cap = A.toNat then ad else ad.map (·.add (A.toNat * sz0))) (B.toNat - A.toNat) (cap - A.toNat)) ?_ rfl (VR.toSR ?_)
        · simp [execOp, he, Instr.sliceAt, Instr.slice, run_underlying hu, hev, hrun, run_szT hsz]
        · have hlen : ((els.take B.toNat).drop A.toNat).length = B.toNat - A.toNat := by simp; omega
          refine .sl b (off + A.toNat * sz0) (fun i j => r (A.toNat + i) j) (by rw [cut]; exact hlen.symm) (by omega) hsz0 (fun hp => ?_) (fun i hi => ?_) (fun i j hi hj => ?_) fun i j hi hj => ?_
          · rw [cut, hlen] at hp
            obtain ⟨rfl, hns⟩ := ha (by omega)
            rw [if_neg (by omega)]
            exact ⟨by simp [add_plain], hns⟩
          · rw [cut, hlen] at hi; rw [cut, getD_drop_take hi]; exact hcl _ (by omega)
          · rw [cut, hlen] at hi
            have := hw (A.toNat + i) j (by omega) hj
            rw [show off + A.toNat * sz0 + (i * sz0 + j) = off + ((A.toNat + i) * sz0 + j) by rw [Nat.add_mul]; omega]
            exact this
          · rw [cut, hlen] at hi; rw [cut, getD_drop_take hi]; exact hr _ _ (by omega) hj
    case nilsl =>
      have hev := sr_nil hv
      simp only [sliceA, when, cutOk, Bool.and_eq_true, Bool.not_eq_true', beq_eq_false_iff_ne, decide_eq_true_eq] at hok ⊢
      obtain ⟨hz, h0, hab, hb⟩ := hok
      have hslt : ∃ e, slT P t = some e ∧ szT P e = some sz := by
        simp only [Bool.or_eq_true, Bool.and_eq_true, beq_iff_eq] at hty
        rcases hty with hty | hty
        · exact absurd hty.2 hz
        · split at hty
          · rename_i e he2
            simp only [Bool.and_eq_true, beq_iff_eq] at hty
            exact ⟨e, he2, hty.1⟩
          · cases hty
      obtain ⟨e, hsl, hsz⟩ := hslt
      have hu := slT_eq hsl
      have hb1 := opt_bound (ds := ds) h hl h0
      have hb2 := opt_bound (ds := ds) h hhh (d := 0) (by omega)
      have hrun := bounds_run P w (isS := true) (len := 0) (cap := 0) hb1 hb2 h0 hab hb
      have hA : idxOr 0 (lo.map (rd s)) = 0 := by omega
      have hB : idxOr 0 (hi.map (rd s)) = 0 := by omega
      rw [hA, hB] at hrun
      exact .val (v := .slice none 0 0) (by simp [execOp, he, Instr.sliceAt, Instr.slice, run_underlying hu, hev, hrun, run_szT hsz]) rfl (VR.toSR .nilsl)
  · cases hc

end
end Go.Proofs.Ytgbopjgnggdhkaa
