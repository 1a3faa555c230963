/- The rest of the operations that write nothing that was there. No condition. -/
import Derived.Test.YtgbopjgnggdhkaaEngG
namespace Go.Proofs.Ytgbopjgnggdhkaa
open Go Go.RowKit
set_option linter.unusedSimpArgs false
set_option linter.unusedVariables false

section
variable {F : Nat → Prop} {g : Gh} {w : World} {tmps : Array Value} {ds : List Deferred} {vm ss : List Nat} {s : St} {P : Program} {o : Oper} {key : Nat}

theorem chkL_len {vm ss : List Nat} : ∀ {xs : List Operand} {ys : List Src}, chkL vm ss xs ys = true → xs.length = ys.length
  | [], [], _ => rfl
  | [], _ :: _, h => by simp [chkL] at h
  | _ :: _, [], h => by simp [chkL] at h
  | a :: r, b :: q, h => by
    simp only [chkL, Bool.and_eq_true] at h
    simp [chkL_len h.2]

theorem chkL_get (h : FR F g w tmps vm ss s) : ∀ {xs : List Operand} {ys : List Src} (j : Nat), chkL vm ss xs ys = true → j < ys.length →
    SR (SetOf F g s.ob) w g s.ob ((xs.map ({ tmps := tmps, defers := ds } : Act).eval).getD j undef) ((ys.map (rd s)).getD j .any)
  | [], [], j, _, hj => by simp at hj
  | [], _ :: _, _, hc, _ => by simp [chkL] at hc
  | _ :: _, [], _, hc, _ => by simp [chkL] at hc
  | a :: r, b :: q, 0, hc, _ => by
    simp only [chkL, Bool.and_eq_true] at hc
    exact h.src hc.1
  | a :: r, b :: q, j + 1, hc, hj => by
    simp only [chkL, Bool.and_eq_true] at hc
    simpa using chkL_get h j hc.2 (by simpa using hj)

theorem SR.simple {S : Nat → Prop} {w : World} {g : Gh} {ob : Obs} {v : Value} {a : AV} (h : SR S w g ob v a) (ha : a.simple = true) : SR1 S w g ob v a := by
  cases a <;> first | exact h | (simp [AV.simple] at ha)

theorem mem_getD {l : List AV} {j : Nat} (hj : j < l.length) : l.getD j .any ∈ l := by
  rw [List.getD_eq_getElem?_getD, List.getElem?_eq_getElem hj]; exact List.getElem_mem hj

theorem toArray_getD (l : List Value) (j : Nat) : l.toArray.getD j undef = l.getD j undef := by
  rw [← getD_toList]

theorem s_mkFn (h : FR F g w tmps vm ss s) {f : Fn} {fi ca : List Src} (hc : cMkFn vm ss f fi ca o.op = true) (hok : ((fi.map (rd s) ++ ca.map (rd s)).all AV.simple) = true) :
    StillPost (SetOf F g s.ob) w g s.ob key (when ((fi.map (rd s) ++ ca.map (rd s)).all AV.simple) (.fn f (fi.map (rd s)) (ca.map (rd s)))) ((execOp ({ tmps := tmps, defers := ds } : Act).eval o).run P w) := by
  unfold cMkFn at hc
  split at hc
  · rename_i f' a b he
    simp only [Bool.and_eq_true, decide_eq_true_eq] at hc
    obtain ⟨hf, h1, h2⟩ := hc
    subst hf
    simp only [List.all_append, Bool.and_eq_true, List.all_eq_true] at hok
    refine .val (v := .func f (a.map ({ tmps := tmps, defers := ds } : Act).eval) (b.map ({ tmps := tmps, defers := ds } : Act).eval)) (by simp [execOp, he, Instr.makeFunc]) rfl ?_
    refine ⟨_, _, rfl, by simpa using chkL_len h1, by simpa using chkL_len h2, fun j hj => ?_, fun j hj => ?_⟩
    · rw [← getD_toList, Array.toList_map]
      exact (chkL_get h j h1 (by simpa using hj)).simple (hok.1 _ (mem_getD hj))
    · rw [← getD_toList, Array.toList_map]
      exact (chkL_get h j h2 (by simpa using hj)).simple (hok.2 _ (mem_getD hj))
  · cases hc

/-! ### make -/

theorem s_make (h : FR F g w tmps vm ss s) {sz bytes : Nat} {z : AV} {l c : Src} (hc : cMake P vm ss sz bytes z l c o.op = true) (hok : (makeA (keyOf key) sz bytes z (rd s l) (rd s c)).ok = true) (hp : 1 ≤ sz) :
    StillPost (SetOf F g s.ob) w g s.ob key (makeA (keyOf key) sz bytes z (rd s l) (rd s c)) ((execOp ({ tmps := tmps, defers := ds } : Act).eval o).run P w) := by
  unfold cMake at hc
  split at hc
  · rename_i t a b he
    simp only [Bool.and_eq_true] at hc
    obtain ⟨hs1, hs2, hty⟩ := hc
    split at hty
    · rename_i e hsl
      simp only [Bool.and_eq_true, beq_iff_eq] at hty
      obtain ⟨hsz, hby, hty⟩ := hty
      split at hty
      · rename_i zv hz
        simp only [Bool.and_eq_true, beq_iff_eq] at hty
        obtain ⟨hzz, hzl, hza⟩ := hty
        have hu := slT_eq hsl
        obtain ⟨i, hi, hib⟩ := byT_info hby
        have hv1 := h.src (ds := ds) hs1
        have hv2 := h.src (ds := ds) hs2
        revert hok
        generalize rd s l = al at hv1
        generalize rd s c = ac at hv2
        intro hok
        cases al <;> cases ac <;> simp only [makeA, bad] at hok <;> try (cases hok; done)
        case int.int k n k2 m =>
          simp only [makeA, mkOk, Bool.and_eq_true, beq_iff_eq, decide_eq_true_eq] at hok ⊢
          obtain ⟨hnm, h0, hb1, hb2⟩ := hok
          subst hnm
          have e1 := sr_int hv1
          have e2 := sr_int hv2
          have hn48 : n ≤ 281474976710656 := by
            have : n * 1 ≤ n * bytes := Int.mul_le_mul_of_nonneg_left (by omega) h0
            omega
          have hw : IntKind.i64.wrap n = n := IntWalk.i64_in n ⟨by omega, by omega⟩
          have hvc := (eqv_VR (S := SetOf F g s.ob) (w := w) hzz).cells hza
          have hzs : zv.cells.size = sz := by rw [hvc.1, hzl]
          have harr : ∃ arr : Array Value, arr.size = n.toNat * sz ∧ (∀ i j, i < n.toNat → j < sz → arr.getD (i * sz + j) undef = zv.cells.getD j undef) ∧
              (Instr.makeSlice t (.int k n) (.int k2 n)).run P w = .ok (.slice (some ⟨w.heap.size, 0, none⟩) n.toNat n.toNat) (w.alloc (.cells arr e)) := by
            have hc2 : ¬ (n * (bytes : Int) > 281474976710656) := by omega
            have hc3 : ¬ ((bytes : Int) * n > 281474976710656) := by rw [Int.mul_comm]; exact hc2
            refine ⟨(Array.range (n.toNat * sz)).map ((if n.toNat * sz = 0 then #[] else zv.cells)[· % (if n.toNat * sz = 0 then (#[] : Array Value) else zv.cells).size]!), by simp, fun i j hi hj => ?_, ?_⟩
            · have hlt : i * sz + j < n.toNat * sz := by
                have : (i + 1) * sz ≤ n.toNat * sz := Nat.mul_le_mul_right _ (by omega)
                rw [Nat.add_mul] at this; omega
              have hne : n.toNat * sz ≠ 0 := by omega
              have hmod : (i * sz + j) % sz = j := by rw [Nat.mul_comm, Nat.mul_add_mod]; exact Nat.mod_eq_of_lt hj
              rw [Array.getD_eq_getD_getElem?, Array.getElem?_eq_getElem (by simpa using hlt)]
              simp only [Array.getElem_map, Array.getElem_range, Option.getD_some, if_neg hne, hzs, hmod]
              rw [getElem!_pos zv.cells j (by omega), Array.getD_eq_getD_getElem?, Array.getElem?_eq_getElem (by omega)]; rfl
            · by_cases hz0 : n.toNat * sz = 0
              · simp [Instr.makeSlice, run_underlying hu, asInt, asIntOf, run_info hi, hib, hw, h0, hc3, run_szT hsz, hz0, newRow]
                omega
              · simp [Instr.makeSlice, run_underlying hu, asInt, asIntOf, run_info hi, hib, hw, h0, hc3, run_szT hsz, hz0, newRow, run_zeT hz]
                omega
          obtain ⟨arr, hasz, hget, hrun⟩ := harr
          refine ⟨.slice (some ⟨w.heap.size, 0, none⟩) n.toNat n.toNat, w.alloc (.cells arr e), by simp [execOp, he, e1, e2, hrun], Same.alloc _ _ _, .inr ⟨_, _, w.heap.size, n.toNat, rfl, by simp [keyOf], Nat.le_refl _, fun S' hS => ?_, .inl ⟨rfl, .inl (by simp)⟩⟩⟩
          refine ⟨hp, by simp, fun i hi => ?_, fun _ => ⟨arr, e, (0, 0), heap_alloc_new _ _, .inl rfl, hasz, fun i j hi hj => ?_⟩⟩
          · have : (List.replicate n.toNat z).getD i .any = z := by
              rw [List.getD_eq_getElem?_getD, List.getElem?_replicate, if_pos (by simpa using hi)]; rfl
            rw [this]; exact ⟨hzl, hza⟩
          · have hi' : i < n.toNat := by simpa using hi
            have : (List.replicate n.toNat z).getD i .any = z := by
              rw [List.getD_eq_getElem?_getD, List.getElem?_replicate, if_pos hi']; rfl
            rw [this, hget i j hi' hj]
            refine (hvc.2 j (by rw [hzl]; exact hj)).mono (Same.alloc _ _ _) fun b hb hc => ?_
            rcases hS b hc with e | e
            · exact e
            · omega
      · cases hty
    · cases hty
  · cases hc

/-! ### min, max -/

theorem foldMM_run (P : Program) (w : World) (mx : Bool) (k : IntKind) : ∀ (r : List AV) (vs : List Value) (n : Int), vs.length = r.length → (∀ j, j < r.length → ∃ m, r.getD j .any = .int k m ∧ vs.getD j undef = .int k m) →
    ∃ m, foldMM mx (.int k n) r = .int k m ∧ (vs.foldlM (bif mx then Builtin.max2 else Builtin.min2) (.int k n)).run P w = .ok (.int k m) w
  | [], [], n, _, _ => ⟨n, rfl, rfl⟩
  | [], _ :: _, _, hl, _ => by simp at hl
  | _ :: _, [], _, hl, _ => by simp at hl
  | a :: r, v :: vs, n, hl, h => by
    obtain ⟨m, ha, hv⟩ := h 0 (by simp)
    simp only [List.getD_cons_zero] at ha hv
    subst ha hv
    have ih := foldMM_run P w mx k r vs (bif mx then (if n < m then m else n) else (if m < n then m else n)) (by simpa using hl) (fun j hj => by simpa using h (j + 1) (by simpa using hj))
    obtain ⟨q, e1, e2⟩ := ih
    refine ⟨q, by simp only [foldMM, mm2]; exact e1, ?_⟩
    rw [List.foldlM_cons, Sem.run_bind]
    cases mx
    · simp only [cond_false] at e2 ⊢
      simp only [Builtin.min2, Sem.run_pure, Result.andThen_ok]
      exact e2
    · simp only [cond_true] at e2 ⊢
      simp only [Builtin.max2, Sem.run_pure, Result.andThen_ok]
      exact e2

theorem s_mm (h : FR F g w tmps vm ss s) {mx : Bool} {xs : List Src} (hc : cMM vm ss mx xs o.op = true) (hok : (mmA mx (xs.map (rd s))).ok = true) :
    StillPost (SetOf F g s.ob) w g s.ob key (mmA mx (xs.map (rd s))) ((execOp ({ tmps := tmps, defers := ds } : Act).eval o).run P w) := by
  unfold cMM at hc
  split at hc
  · rename_i b args tys he
    simp only [Bool.and_eq_true] at hc
    obtain ⟨hl, hb⟩ := hc
    cases xs with
    | nil => simp [mmA, bad] at hok
    | cons x xs =>
      obtain ⟨args⟩ := args
      simp only at hl
      cases args with
      | nil => simp [chkL] at hl
      | cons a args =>
        simp only [chkL, Bool.and_eq_true] at hl
        have hv := h.src (ds := ds) hl.1
        simp only [List.map_cons] at hok ⊢
        revert hok
        generalize rd s x = ax at hv
        intro hok
        cases ax <;> simp only [mmA, bad] at hok <;> try (cases hok; done)
        case int k n =>
          have e1 := sr_int hv
          simp only [mmA, when, List.all_eq_true] at hok ⊢
          have hlen := chkL_len hl.2
          obtain ⟨m, e2, e3⟩ := foldMM_run P w mx k (xs.map (rd s)) (args.map ({ tmps := tmps, defers := ds } : Act).eval) n (by simpa using hlen) (fun j hj => by
            have hsr := chkL_get (ds := ds) h j hl.2 (by simpa using hj)
            have hk := hok _ (mem_getD hj)
            revert hk hsr
            generalize (xs.map (rd s)).getD j .any = q
            intro hsr hk
            cases q <;> simp [kindIs] at hk
            subst hk
            exact ⟨_, rfl, sr_int hsr⟩)
          rw [e2]
          refine .val (v := .int k m) ?_ rfl (VR.toSR .int)
          cases mx <;> cases b <;> simp at hb <;> simp [execOp, he, resolve, invoke, builtin, Builtin.min_, Builtin.max_, e1] <;> simp only [cond_false, cond_true] at e3 <;> simp [e3]
  · cases hc

/-! ### Structs are compared -/

def kindT (P : Program) (t : TypeId) : Nat :=
  match P.underlying t with
  | some .bool => 0
  | some (.int _) => 1
  | some .string => 2
  | _ => 9

def fldOk (P : Program) : Nat → List Nat → List Field → Bool
  | n, k :: ks, f :: fs => (f.name != "_") && ((f.offset == n) && ((k == kindT P f.type) && (Nat.ble k 2 && (aggO P f.type == some false && fldOk P (n + 1) ks fs))))
  | _, [], [] => true
  | _, _, _ => false

def eqT (P : Program) (ks : List Nat) (t : TypeId) : Bool :=
  (match P.underlying t with | some (.struct _) => true | _ => false) && (!P.stoodInHeld t && (!P.eqGuardType P.depth t && fldOk P 0 ks (P.fieldsOf t).toList))

def cEqA (P : Program) (vm ss : List Nat) (neg : Bool) (ks : List Nat) (x y : Src) : Op → Bool
  | .binOp u t a b _ => chkSrc vm ss a x && (chkSrc vm ss b y && ((match u with | .eql => !neg | .neq => neg | _ => false) && eqT P ks t))
  | _ => false

theorem eqFields_run (P : Program) (w : World) (S : Nat → Prop) (d : Nat) (xs ys : Array Value) : ∀ (n : Nat) (ks : List Nat) (fs : List Field) (a b : List AV), fldOk P n ks fs = true → eqCellsOk ks a b = true →
    (∀ j, j < a.length → n + j < xs.size ∧ VR S w (xs.getD (n + j) undef) (a.getD j .any)) → (∀ j, j < b.length → n + j < ys.size ∧ VR S w (ys.getD (n + j) undef) (b.getD j .any)) →
    (Op.eqFields (d + 1) xs ys fs).run P w = .ok (eqCells a b) w
  | _, [], [], a, b, _, hok, _, _ => by
    cases a <;> cases b <;> simp [eqCellsOk] at hok
    simp [Op.eqFields, eqCells]
  | _, [], _ :: _, _, _, hf, _, _, _ => by simp [fldOk] at hf
  | _, _ :: _, [], _, _, hf, _, _, _ => by simp [fldOk] at hf
  | n, k :: ks, f :: fs, a, b, hf, hok, hx, hy => by
    cases a with
    | nil => simp [eqCellsOk] at hok
    | cons p r =>
      cases b with
      | nil => simp [eqCellsOk] at hok
      | cons q t =>
        simp only [fldOk, Bool.and_eq_true, bne_iff_ne, beq_iff_eq] at hf
        obtain ⟨hname, hoff, hk, hk2, hagg, hrest⟩ := hf
        simp only [eqCellsOk, Bool.and_eq_true] at hok
        have ih := eqFields_run P w S d xs ys (n + 1) ks fs r t hrest hok.2 (fun j hj => by have := hx (j + 1) (by simpa using hj); rw [Nat.add_assoc, Nat.add_comm 1 j]; simpa using this) (fun j hj => by have := hy (j + 1) (by simpa using hj); rw [Nat.add_assoc, Nat.add_comm 1 j]; simpa using this)
        have h1 := hx 0 (by simp)
        have h2 := hy 0 (by simp)
        simp only [Nat.add_zero, List.getD_cons_zero] at h1 h2
        obtain ⟨u1, g1, gu1⟩ := arr_getD h1.1
        obtain ⟨u2, g2, gu2⟩ := arr_getD h2.1
        rw [gu1] at h1
        rw [gu2] at h2
        have hp1 : (Go.part f.type xs f.offset).run P w = .ok u1 w := by simp [Go.part, run_aggO hagg, hoff, g1]
        have hp2 : (Go.part f.type ys f.offset).run P w = .ok u2 w := by simp [Go.part, run_aggO hagg, hoff, g2]
        have heq : (Op.equalIn (d + 1) f.type u1 u2).run P w = .ok (eq1 p q) w := by
          have hok1 := hok.1
          cases p <;> cases q <;> simp only [eq1Ok] at hok1 <;> try (cases hok1; done)
          case int.int k1 x1 k2 x2 =>
            simp only [Bool.and_eq_true, beq_iff_eq] at hok1
            obtain ⟨rfl, rfl⟩ := hok1
            cases h1.2; cases h2.2
            have : ∃ kk, P.underlying f.type = some (.int kk) := by
              unfold kindT at hk; split at hk <;> simp at hk; exact ⟨_, by assumption⟩
            obtain ⟨kk, hu⟩ := this
            exact run_equalIn_int w d f.type k1 kk x1 x2 hu
          case bool.bool x1 x2 =>
            simp only [beq_iff_eq] at hok1
            subst hok1
            cases h1.2; cases h2.2
            have hu : P.underlying f.type = some .bool := by
              unfold kindT at hk; split at hk <;> simp at hk; assumption
            exact run_equalIn_bool' w d f.type x1 x2 hu
          case str.str x1 x2 =>
            simp only [beq_iff_eq] at hok1
            subst hok1
            cases h1.2; cases h2.2
            have hu : P.underlying f.type = some .string := by
              unfold kindT at hk; split at hk <;> simp at hk; assumption
            have := run_equalIn_string w d f.type (⟨x1.toArray⟩ : ByteArray) ⟨x2.toArray⟩ hu
            simpa [eq1] using this
        simp only [Op.eqFields, Sem.run_ite, Sem.run_bind, if_pos hname, hp1, hp2, heq, Result.andThen_ok, eqCells]
        cases hE : eq1 p q
        · simp
        · simp [ih]

theorem s_eqA (h : FR F g w tmps vm ss s) {neg : Bool} {ks : List Nat} {x y : Src} (hc : cEqA P vm ss neg ks x y o.op = true) (hok : (cmpAgg neg ks (rd s x) (rd s y)).ok = true) :
    StillPost (SetOf F g s.ob) w g s.ob key (cmpAgg neg ks (rd s x) (rd s y)) ((execOp ({ tmps := tmps, defers := ds } : Act).eval o).run P w) := by
  unfold cEqA at hc
  split at hc
  · rename_i u t a b yt he
    simp only [Bool.and_eq_true] at hc
    obtain ⟨hs1, hs2, hu, hty⟩ := hc
    have hv1 := h.src (ds := ds) hs1
    have hv2 := h.src (ds := ds) hs2
    revert hok
    generalize rd s x = ax at hv1
    generalize rd s y = ay at hv2
    intro hok
    cases ax <;> cases ay <;> simp only [cmpAgg, bad] at hok <;> try (cases hok; done)
    case agg.agg p q =>
      simp only [SR, SR1] at hv1 hv2
      generalize e1 : ({ tmps := tmps, defers := ds } : Act).eval a = v1 at hv1
      generalize e2 : ({ tmps := tmps, defers := ds } : Act).eval b = v2 at hv2
      cases hv1 with
      | @agg xs _ n1 _ r1 =>
        cases hv2 with
        | @agg ys _ n2 _ r2 =>
          simp only [cmpAgg, when] at hok ⊢
          simp only [eqT, Bool.and_eq_true, Bool.not_eq_true'] at hty
          obtain ⟨hst, hsh, hg, hf⟩ := hty
          have hst' : P.underlying t = some (.struct (P.fieldsOf t)) := by
            unfold Program.fieldsOf
            split at hst
            · rename_i fs hfs; rw [hfs]
            · cases hst
          have hrun := eqFields_run P w (SetOf F g s.ob) 9998 xs ys 0 ks _ p q hf hok (fun j hj => by rw [Nat.zero_add]; exact ⟨by omega, r1 j hj⟩) (fun j hj => by rw [Nat.zero_add]; exact ⟨by omega, r2 j hj⟩)
          have hall := run_equalIn_struct (P := P) w 9999 t xs ys hst' hsh
          rw [hrun] at hall
          cases u <;> simp at hu
          · subst hu
            exact .val (v := .bool (eqCells p q)) (by simp [execOp, he, e1, e2, run_eqGuard_agg w .eql t a b xs ys hg, run_eql_struct, hall]) rfl (VR.toSR .bool)
          · subst hu
            exact .val (v := .bool (!eqCells p q)) (by simp [execOp, he, e1, e2, run_eqGuard_agg w .neq t a b xs ys hg, run_neq_struct, hall]) rfl (VR.toSR .bool)
  · cases hc

end
end Go.Proofs.Ytgbopjgnggdhkaa
