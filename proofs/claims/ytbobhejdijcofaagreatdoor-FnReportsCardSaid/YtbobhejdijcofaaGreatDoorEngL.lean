/- An append. No condition. -/
import Derived.Test.YtbobhejdijcofaaGreatDoorEngK
namespace Go.Proofs.YtbobhejdijcofaaGreatDoor
open Go Go.RowKit
set_option linter.unusedSimpArgs false
set_option linter.unusedVariables false

section
variable {F Iow : Nat → Prop} {w0 : World} {g0 : Gh} {o0 : Obs} {g : Gh} {w w' : World} {tmps : Array Value} {ds : List Deferred} {vm ss ss' : List Nat} {s : St} {P : Program} {o : Oper} {key : Nat}

theorem kill_any (k : Nat) : AV.kill k .any = .any := by simp [AV.kill, AV.names, AV.keys]
theorem kill_cases (k : Nat) (a : AV) : AV.kill k a = .any ∨ (AV.kill k a = a ∧ k ∉ a.keys) := by
  by_cases hc : a.names k = true
  · exact .inl (by simp [AV.kill, hc])
  · exact .inr ⟨by simp [AV.kill, hc], fun h => hc (mem_keys_names.2 h)⟩

/-- A block of the frame's own gets other elements, at its place or at a new one; all that names it is forgotten. -/
theorem FX.reown' (h : FX F Iow w0 g0 o0 g w tmps vm ss s) {k : Nat} {hm h2 : Hm} {b cap : Nat} (hk : obGet k s.ob = some hm) (hw : Same (fun c => c = g.β k ∧ 0 < g.cap k) w w')
    (hb : 0 < cap → (b = g.β k ∧ 0 < g.cap k) ∨ w.heap.size ≤ b) (hnew : ∀ S' : Nat → Prop, (∀ c, S' c → SetOf F g s.ob c ∨ c = b) → Home S' w' b cap h2.sz h2.els) (hpar : Par g0 o0 ⟨fun j => if j = k then b else g.β j, fun j => if j = k then cap else g.cap j⟩ (obSet k h2 s.ob)) (ok : Bool) :
    FX F Iow w0 g0 o0 ⟨fun j => if j = k then b else g.β j, fun j => if j = k then cap else g.cap j⟩ w' tmps vm ss { vs := s.vs.map (AV.kill k), st := s.st.map (AV.kill k), ob := obSet k h2 s.ob, ok := ok } := by
  have hsame : Same (SetOf F g s.ob) w w' := hw.mono fun c _ e => .inr ⟨k, ⟨⟨hm, hk⟩, e.2⟩, e.1.symm⟩
  have hin : ∀ {j}, inOb (obSet k h2 s.ob) j → inOb s.ob j := fun hj => inOb_set hk hj
  have hset : ∀ c, SetOf F ⟨fun j => if j = k then b else g.β j, fun j => if j = k then cap else g.cap j⟩ (obSet k h2 s.ob) c → SetOf F g s.ob c ∨ (c = b ∧ 0 < cap) := by
    intro c hc
    rcases hc with hc | ⟨j, ⟨hj, hp⟩, e⟩
    · exact .inl (.inl hc)
    · by_cases hjk : j = k
      · subst hjk; exact .inr ⟨by simpa using e.symm, by simpa using hp⟩
      · exact .inl (.inr ⟨j, ⟨hin hj, by simpa [hjk] using hp⟩, by simpa [hjk] using e⟩)
  have hset2 : ∀ c, c < w.heap.size → SetOf F ⟨fun j => if j = k then b else g.β j, fun j => if j = k then cap else g.cap j⟩ (obSet k h2 s.ob) c → SetOf F g s.ob c := by
    intro c hc hs
    rcases hset c hs with e | e
    · exact e
    · rcases hb e.2 with hb | hb
      · exact .inr ⟨k, ⟨⟨hm, hk⟩, hb.2⟩, by rw [e.1, hb.1]⟩
      · omega
  have hne : 0 < cap → ∀ j, j ≠ k → liv g s.ob j → g.β j ≠ b := by
    intro hcp j hj hl e
    rcases hb hcp with hb | hb
    · exact hj (h.inj j k hl ⟨⟨hm, hk⟩, hb.2⟩ (by rw [e, hb.1]))
    · obtain ⟨⟨h', hg⟩, hp⟩ := hl
      have := (h.home j h' hg).lt hp
      omega
  have hlv : ∀ j, j ≠ k → liv ⟨fun j => if j = k then b else g.β j, fun j => if j = k then cap else g.cap j⟩ (obSet k h2 s.ob) j → liv g s.ob j := fun j hj hl => ⟨hin hl.1, by simpa [hj] using hl.2⟩
  have hfr := h.toFR.slots (w' := w') (g' := ⟨fun j => if j = k then b else g.β j, fun j => if j = k then cap else g.cap j⟩) (ob' := obSet k h2 s.ob) (AV.kill k) (kill_any k) hsame hset2 (fun a v _ => by
      rcases kill_cases k a with e | ⟨e, hn⟩
      · exact .inl e
      · refine .inr ⟨e, fun j hj h' hg => ?_⟩
        have hjk : j ≠ k := fun e => hn (e ▸ hj)
        exact ⟨h', by rw [obGet_obSet, if_neg (Ne.symm hjk)]; exact hg, rfl, rfl, by simp [hjk], by simp [hjk]⟩) (fun j h' hg => by
    rw [obGet_obSet] at hg
    by_cases hjk : k = j
    · subst hjk
      rw [if_pos rfl] at hg; cases hg
      simp only [if_true]
      exact hnew _ fun c hc => (hset c hc).imp id fun e => e.1
    · rw [if_neg hjk] at hg
      simp only [if_neg (Ne.symm hjk)]
      refine (h.home j h' hg).mono hsame (fun hpj => hw.block _ ((h.home j h' hg).lt hpj) fun e2 => ?_) hset2
      exact hjk (h.inj k j ⟨⟨hm, hk⟩, e2.2⟩ ⟨⟨h', hg⟩, hpj⟩ e2.1.symm)) (fun j j' a c e => by
    by_cases e1 : j = k
    · by_cases e2 : j' = k
      · rw [e1, e2]
      · simp only [e1, e2, if_true, if_false] at e
        exact absurd e.symm (hne (by simpa [e1] using a.2) j' e2 (hlv j' e2 c))
    · by_cases e2 : j' = k
      · simp only [e1, e2, if_true, if_false] at e
        exact absurd e (hne (by simpa [e2] using c.2) j e1 (hlv j e1 a))
      · simp only [e1, e2, if_false] at e
        exact h.inj j j' (hlv j e1 a) (hlv j' e2 c) e) (fun j a => by
    by_cases e1 : j = k
    · have hcp : 0 < cap := by simpa [e1] using a.2
      simp only [e1, if_true]
      rcases hb hcp with hb | hb
      · rw [hb.1]; exact h.nF k ⟨⟨hm, hk⟩, hb.2⟩
      · intro hf; have := h.fb b hf; omega
    · simp only [e1, if_false]; exact h.nF j (hlv j e1 a)) ok
  refine FX.mk' (w := w) hfr h.same (hw.mono fun c _ e => ?_) (fun j hj => ?_) h.fio hpar
  · rw [e.1]; exact h.hio k ⟨⟨hm, hk⟩, e.2⟩
  · by_cases e1 : j = k
    · have hcp : 0 < cap := by simpa [e1] using hj.2
      simp only [e1, if_true]
      rcases hb hcp with hb | hb
      · rw [hb.1]; exact h.hio k ⟨⟨hm, hk⟩, hb.2⟩
      · exact .inl (Nat.le_trans h.same.size hb)
    · simp only [e1, if_false]; exact h.hio j (hlv j e1 hj)

theorem FX.reown (h : FX F Iow w0 g0 o0 g w tmps vm ss s) {k : Nat} {hm h2 : Hm} {b cap : Nat} (hk : obGet k s.ob = some hm) (hw : Same (fun c => c = g.β k ∧ 0 < g.cap k) w w')
    (hb : 0 < cap → (b = g.β k ∧ 0 < g.cap k) ∨ w.heap.size ≤ b) (hnew : ∀ S' : Nat → Prop, (∀ c, S' c → SetOf F g s.ob c ∨ c = b) → Home S' w' b cap h2.sz h2.els) (hz : h2.sz = hm.sz) (hl : hm.els.length ≤ h2.els.length) (hbl : h2.els.length = hm.els.length → b = g.β k ∧ cap = g.cap k) (ok : Bool) :
    FX F Iow w0 g0 o0 ⟨fun j => if j = k then b else g.β j, fun j => if j = k then cap else g.cap j⟩ w' tmps vm ss { vs := s.vs.map (AV.kill k), st := s.st.map (AV.kill k), ob := obSet k h2 s.ob, ok := ok } :=
  h.reown' hk hw hb hnew (h.par.set hk hz hl hbl) ok

/-! ### The builtin's run -/

theorem notInt_run {u : TypeId} (h : notInt P u = true) : (∃ e, P.underlying u = some (.slice e)) ∨ P.underlying u = some .string := by
  unfold notInt at h
  split at h
  · rename_i e hu; exact .inl ⟨e, hu⟩
  · rename_i hu; exact .inr hu
  · cases h

theorem run_app_room {t u e ty : TypeId} {sz n cap m : Nat} {base : Option Addr} {x : Value} {news : Array Value} (ht : P.underlying t = some (.slice e)) (hu : notInt P u = true) (hsz : szT P e = some sz)
    (hn : (Builtin.lenOf x).run P w = .ok m w) (hc : (Builtin.firstCells sz m x).run P w = .ok news w) (hle : n + m ≤ cap) (hst : ∀ a, base = some a → (storeCells (a.add (n * sz)) news.toList).run P w = .ok () w') (hbn : base = none → w' = w) :
    (Builtin.append_ #[t, u] ty #[.slice base n cap, x]).run P w = .ok (.slice base (n + m) cap) w' := by
  rcases notInt_run hu with ⟨d, hd⟩ | hd
  · cases base with
    | none => have := hbn rfl; subst this; simp [Builtin.append_, run_underlying ht, run_underlying hd, run_szT hsz, hn, hc, hle]
    | some a => have := hst a rfl; simp [Builtin.append_, run_underlying ht, run_underlying hd, run_szT hsz, hn, hc, hle, this]
  · cases base with
    | none => have := hbn rfl; subst this; simp [Builtin.append_, run_underlying ht, run_underlying hd, run_szT hsz, hn, hc, hle]
    | some a => have := hst a rfl; simp [Builtin.append_, run_underlying ht, run_underlying hd, run_szT hsz, hn, hc, hle, this]

theorem run_app_grow {t u e ty : TypeId} {sz bytes n cap m : Nat} {base : Option Addr} {x zv : Value} {olds news : Array Value} (ht : P.underlying t = some (.slice e)) (hu : notInt P u = true) (hsz : szT P e = some sz)
    (hby : byT P e = some bytes) (hze : zeT P e = some zv) (hb1 : 1 ≤ bytes)
    (hn : (Builtin.lenOf x).run P w = .ok m w) (hc : (Builtin.firstCells sz m x).run P w.drew = .ok news w.drew) (ho : (Builtin.firstCells sz n (.slice base n cap)).run P w.drew = .ok olds w.drew)
    (hg : cap < n + m) (hbytes : (n + m) * bytes ≤ 140737488355328) :
    (Builtin.append_ #[t, u] ty #[.slice base n cap, x]).run P w =
      .ok (.slice (some ⟨w.heap.size, 0, none⟩) (n + m) (grownCap w (n + m) cap e)) (w.drew.alloc (.cells (olds ++ news ++ Builtin.zeroCells zv.cells (grownCap w (n + m) cap e - (n + m))) e)) := by
  obtain ⟨i, hi, hib⟩ := byT_info hby
  have hle : ¬ (n + m ≤ cap) := by omega
  have h0 : i.bytes ≠ 0 := by omega
  have h48 : ¬ (281474976710656 < Builtin.nextslicecap (n + m) cap * i.bytes) := by have := growslice_fits hg hbytes; rw [hib]; omega
  rcases notInt_run hu with ⟨d, hd⟩ | hd
  · simp [Builtin.append_, run_underlying ht, run_underlying hd, run_szT hsz, hn, hc, ho, hle, run_info hi, h0, h48, Question.forced, run_zeT hze, newRow, grownCap]
  · simp [Builtin.append_, run_underlying ht, run_underlying hd, run_szT hsz, hn, hc, ho, hle, run_info hi, h0, h48, Question.forced, run_zeT hze, newRow, grownCap]

theorem app_getD {a b : Array Value} {x : Nat} : (a ++ b).getD x undef = if x < a.size then a.getD x undef else b.getD (x - a.size) undef := by
  simp only [Array.getD_eq_getD_getElem?, Array.getElem?_append]
  split <;> rfl

theorem els_app_getD {l r : List AV} {i : Nat} : (l ++ r).getD i .any = if i < l.length then l.getD i .any else r.getD (i - l.length) .any := by
  simp only [List.getD_eq_getElem?_getD, List.getElem?_append]
  split <;> rfl

/-- The elements of what was there and of what is appended, one behind the other. -/
theorem SrcOk.both {S : Nat → Prop} {sz : Nat} {u v : Value} {xs ys : List AV} {olds news : Array Value} (hx : SrcOk S w P sz u xs olds) (hy : SrcOk S w P sz v ys news) {rest : Array Value} :
    (∀ i, i < (xs ++ ys).length → ((xs ++ ys).getD i .any).cells.length = sz ∧ ((xs ++ ys).getD i .any).atoms = true) ∧
    ∀ i j, i < (xs ++ ys).length → j < sz → VR S w ((olds ++ news ++ rest).getD (i * sz + j) undef) (((xs ++ ys).getD i .any).cells.getD j .any) := by
  refine ⟨fun i hi => ?_, fun i j hi hj => ?_⟩
  · rw [els_app_getD]
    rw [List.length_append] at hi
    split
    · exact hx.e i (by omega)
    · exact hy.e _ (by omega)
  · rw [List.length_append] at hi
    have hlt : i * sz + j < (olds ++ news).size := by
      rw [Array.size_append, hx.l, hy.l, ← Nat.add_mul]; exact div_lt hi hj
    rw [app_getD, if_pos hlt, app_getD, hx.l, els_app_getD]
    by_cases hc : i < xs.length
    · rw [if_pos (div_lt hc hj), if_pos hc]; exact hx.r i j hc hj
    · have hge : xs.length * sz ≤ i * sz := Nat.mul_le_mul_right _ (by omega)
      rw [if_neg (by omega), if_neg hc]
      have := hy.r (i - xs.length) j (by omega) hj
      rwa [Nat.sub_mul, show i * sz - xs.length * sz + j = i * sz + j - xs.length * sz by omega] at this

theorem oneCells {S : Nat → Prop} {sz : Nat} {v : Value} {ys : List AV} {news : Array Value} (hsz : 1 ≤ sz) (hy : SrcOk S w P sz v ys news) : ∀ u, u ∈ news.toList → u.oneCell' = true := by
  intro u hu
  obtain ⟨x, hx, rfl⟩ := List.getElem_of_mem hu
  have hx' : x < ys.length * sz := by rw [← hy.l]; simpa using hx
  obtain ⟨h1, h2, h3⟩ := two_dim hsz hx'
  have hr := hy.r (x / sz) (x % sz) h1 h2
  have he := hy.e (x / sz) h1
  have := hr.oneCell (atoms_cells he.2 (by rw [he.1]; exact h2))
  rw [← h3, ← getD_toList, List.getD_eq_getElem?_getD, List.getElem?_eq_getElem hx] at this
  exact this

theorem SrcOk.ext {S S' : Nat → Prop} {sz : Nat} {v : Value} {ys : List AV} {news : Array Value} (hy : SrcOk S w P sz v ys news) (hs : Same S w w') (hS : ∀ b, b < w.heap.size → S' b → S b) :
    (∀ i j, i < ys.length → j < sz → VR S' w' (news.getD (i * sz + j) undef) ((ys.getD i .any).cells.getD j .any)) := fun i j hi hj => (hy.r i j hi hj).mono hs hS

theorem grownHome {S : Nat → Prop} {sz n cap : Nat} {u v zv : Value} {xs ys : List AV} {olds news : Array Value} {e : TypeId} (hsz : 1 ≤ sz) (hzs : zv.cells.size = sz) (hx : SrcOk S w.drew P sz u xs olds) (hy : SrcOk S w.drew P sz v ys news)
    (hcap : xs.length + ys.length ≤ cap) {S' : Nat → Prop} (hS : ∀ c, S' c → S c ∨ c = w.heap.size) :
    Home S' (w.drew.alloc (.cells (olds ++ news ++ Builtin.zeroCells zv.cells (cap - (xs.length + ys.length))) e)) w.heap.size cap sz (xs ++ ys) := by
  obtain ⟨h1, h2⟩ := hx.both hy (rest := Builtin.zeroCells zv.cells (cap - (xs.length + ys.length)))
  refine ⟨hsz, by simpa using hcap, h1, fun _ => ⟨_, e, (0, 0), heap_alloc_new w.drew _, .inl rfl, ?_, fun i j hi hj => ?_⟩⟩
  · rw [Array.size_append, Array.size_append, size_zeroCells, hx.l, hy.l, hzs, ← Nat.add_mul, ← Nat.add_mul]
    congr 1; omega
  · refine (h2 i j hi hj).mono (Same.alloc _ _ _) fun b hb hc => ?_
    rcases hS b hc with e | e
    · exact e
    · exact absurd hb (by rw [e]; exact Nat.lt_irrefl _)

theorem cApp_inv {sz bytes : Nat} {z : AV} {a x : Src} {op : Op} (hc : cApp P vm ss sz bytes z a x op = true) :
    ∃ t u p q e zv ty args tys, op = .call { callee := .builtin .append, args := args, argTypes := tys } ∧ args = #[p, q] ∧ tys = #[t, u] ∧ chkSrc vm ss p a = true ∧ chkSrc vm ss q x = true ∧ notInt P u = true ∧ 1 ≤ sz ∧
      P.underlying t = some (.slice e) ∧ szT P e = some sz ∧ byT P e = some bytes ∧ zeT P e = some zv ∧ zv.cells.size = sz ∧ 1 ≤ bytes ∧ ty = (0 : TypeId) := by
  unfold cApp at hc
  split at hc
  · rename_i args tys
    split at hc
    · rename_i p q t u h1 h2
      simp only [Bool.and_eq_true, decide_eq_true_eq] at hc
      obtain ⟨c1, c2, c3, c4, c5⟩ := hc
      split at c5
      · rename_i e hsl
        simp only [Bool.and_eq_true, beq_iff_eq] at c5
        obtain ⟨c6, c7, c8⟩ := c5
        split at c8
        · rename_i zv hz
          simp only [Bool.and_eq_true, beq_iff_eq, decide_eq_true_eq] at c8
          exact ⟨t, u, p, q, e, zv, 0, args, tys, rfl, by rw [← Array.toArray_toList (xs := args), h1], by rw [← Array.toArray_toList (xs := tys), h2], c1, c2, c3, c4, slT_eq hsl, c6, c7, hz, c8.1, c8.2, rfl⟩
        · cases c8
      · cases c5
    · cases hc
  · cases hc

theorem FX.app (h : FX F Iow w0 g0 o0 g w tmps vm ss s) (hnd : NdOk vm) {D : Dst} (hd : chkDst vm ss o.dst D = some ss') (hfit : ∀ d, o.dst = some d → d < tmps.size) {sz bytes : Nat} {z : AV} {a x : Src} (hc : cApp P vm ss sz bytes z a x o.op = true)
    (hok : (appA s key D sz bytes (appSrc sz s.ob (rd s x)) (rd s a)).ok = true) :
    ∃ v w' g', (execOp ({ tmps := tmps, defers := ds } : Act).eval o).run P w = .ok (.value v) w' ∧ FX F Iow w0 g0 o0 g' w' (putT tmps o.dst v) vm ss' (appA s key D sz bytes (appSrc sz s.ob (rd s x)) (rd s a)) := by
  obtain ⟨t, u, p, q, e, zv, ty, args, tys, he, rfl, rfl, hs1, hs2, hu, hsz1, ht, hsz, hby, hze, hzs, hb1, -⟩ := cApp_inv hc
  have hva := h.toFR.src (ds := ds) hs1
  have hvx := h.toFR.src (ds := ds) hs2
  have hexec : ∀ r w', (Builtin.append_ #[t, u] o.type #[({ tmps := tmps, defers := ds } : Act).eval p, ({ tmps := tmps, defers := ds } : Act).eval q]).run P w = .ok r w' → (execOp ({ tmps := tmps, defers := ds } : Act).eval o).run P w = .ok (.value r) w' := by
    intro r w' hr
    unfold execOp
    simp only [he, resolve, invoke, builtin, Sem.run_bind, Sem.run_pure, Result.andThen_ok, List.map_toArray, List.map_cons, List.map_nil, hr]
  have hdrew : Same (fun _ => False) w w.drew := Same.drew _ _
  have hfd := h.toFR.grow hdrew
  have hvad := hfd.src (ds := ds) hs1
  have hvxd := hfd.src (ds := ds) hs2
  revert hok
  generalize rd s x = ax at hvx hvxd
  generalize rd s a = aa at hva hvad
  intro hok
  cases aa <;> simp only [appA, fail] at hok <;> try (cases hok; done)
  case nilsl =>
    have hev := sr_nil hva
    have hk : (putM s key D ⟨((appSrc sz s.ob ax).sz == sz) && ((appSrc sz s.ob ax).ok && appOk (appSrc sz s.ob ax).els.length bytes), .own (keyOf key), [(keyOf key, ⟨sz, (appSrc sz s.ob ax).els⟩)]⟩).ok = true → ((appSrc sz s.ob ax).sz = sz ∧ (appSrc sz s.ob ax).ok = true ∧ (appSrc sz s.ob ax).els.length * bytes ≤ 140737488355328) := by
      intro h0
      cases D <;> simpa [putM, putH, putD, appOk] using (by simpa [putM, putH, putD, appOk] using h0 : _ ∧ _).2
    obtain ⟨hysz, hyok, hyb⟩ := hk hok
    obtain ⟨news, hy⟩ := appSrc_ok (P := P) h.toFR hsz1 hvx hyok hysz
    obtain ⟨newsd, hyd⟩ := appSrc_ok (P := P) hfd hsz1 hvxd hyok hysz
    obtain ⟨oldsd, hxd⟩ := appSrc_ok (P := P) hfd hsz1 (a := .nilsl) (sz := sz) hvad rfl rfl
    refine FX.still h hnd hd hfit ?_
    simp only [appSrc] at hxd
    have hxc := hxd.c
    rw [hev] at hxc
    simp only [List.length_nil] at hxc
    rcases Nat.eq_zero_or_pos (appSrc sz s.ob ax).els.length with h0 | h0
    · have hys : (appSrc sz s.ob ax).els = [] := List.length_eq_zero_iff.1 h0
      rw [hys] at hy ⊢
      have hr := run_app_room (P := P) (w := w) (w' := w) (ty := o.type) (base := none) (n := 0) (cap := 0) ht hu hsz hy.n hy.c (by simp) (fun a e => by cases e) (fun _ => rfl)
      refine ⟨.slice none 0 0, w, hexec _ _ (by rw [hev]; exact hr), Same.refl _ _, .inr ⟨keyOf key, ⟨sz, []⟩, w.heap.size, 0, rfl, by simp [keyOf], Nat.le_refl _, fun S' hS => ?_, .inl ⟨rfl, .inr ⟨rfl, rfl⟩⟩⟩⟩
      exact ⟨hsz1, Nat.le_refl _, fun i hi => by simp at hi, fun hp => absurd hp (Nat.lt_irrefl _)⟩
    · have hg := run_app_grow (P := P) (w := w) (ty := o.type) (base := none) (n := 0) (cap := 0) (olds := oldsd) (news := newsd) ht hu hsz hby hze hb1 hy.n hyd.c hxc (by omega) (by rw [Nat.zero_add]; exact hyb)
      refine ⟨_, _, hexec _ _ (by rw [hev]; exact hg), (Same.drew _ _).trans (Same.alloc _ _ _), .inr ⟨keyOf key, ⟨sz, (appSrc sz s.ob ax).els⟩, w.heap.size, grownCap w (0 + (appSrc sz s.ob ax).els.length) 0 e, rfl, by simp [keyOf], Nat.le_refl _, fun S' hS => ?_, .inl ⟨rfl, .inl (by rw [Nat.zero_add])⟩⟩⟩
      have := grownHome (w := w) (P := P) (e := e) (n := 0) hsz1 hzs hxd hyd (cap := grownCap w (0 + (appSrc sz s.ob ax).els.length) 0 e) (by simpa using grownCap_ge w (0 + (appSrc sz s.ob ax).els.length) 0 e) hS
      simpa using this
  case own k =>
    obtain ⟨hm, ho, hev⟩ := hva
    simp only [appA, ho, appOwn] at hok ⊢
    have hk : hm.sz = sz ∧ (appSrc sz s.ob ax).sz = sz ∧ (appSrc sz s.ob ax).ok = true ∧ (hm.els.length + (appSrc sz s.ob ax).els.length) * bytes ≤ 140737488355328 := by
      cases D <;> simpa [putD, appOk] using (by simpa [putD, appOk] using hok : _ ∧ _).2
    obtain ⟨hmsz, hysz, hyok, hyb⟩ := hk
    obtain ⟨news, hy⟩ := appSrc_ok (P := P) h.toFR hsz1 hvx hyok hysz
    obtain ⟨newsd, hyd⟩ := appSrc_ok (P := P) hfd hsz1 hvxd hyok hysz
    have hoS : (appSrc sz s.ob (.own k)) = ⟨true, hm.sz, hm.els⟩ := by simp [appSrc, ho, srcHm]
    obtain ⟨oldsd, hxd⟩ := appSrc_ok (P := P) hfd hsz1 (a := .own k) (sz := sz) hvad (by rw [hoS]) (by rw [hoS]; exact hmsz)
    rw [hoS] at hxd
    have hh := h.home k hm ho
    generalize hyy : (appSrc sz s.ob ax).els = ys at hy hyd hyb ⊢
    -- what is to be shown, once the block stands
    have fin : ∀ (b cap : Nat) (v : Value) (w' : World), (ys.length = 0 → b = g.β k ∧ cap = g.cap k) → (Builtin.append_ #[t, u] o.type #[({ tmps := tmps, defers := ds } : Act).eval p, ({ tmps := tmps, defers := ds } : Act).eval q]).run P w = .ok v w' →
        Same (fun c => c = g.β k ∧ 0 < g.cap k) w w' → (0 < cap → (b = g.β k ∧ 0 < g.cap k) ∨ w.heap.size ≤ b) → (∀ S' : Nat → Prop, (∀ c, S' c → SetOf F g s.ob c ∨ c = b) → Home S' w' b cap sz (hm.els ++ ys)) →
        (v = .slice (some ⟨b, 0, none⟩) (hm.els.length + ys.length) cap ∨ (cap = 0 ∧ v = .slice none 0 0)) →
        ∃ v w' g', (execOp ({ tmps := tmps, defers := ds } : Act).eval o).run P w = .ok (.value v) w' ∧ FX F Iow w0 g0 o0 g' w' (putT tmps o.dst v) vm ss' (putD { s with vs := s.vs.map (AV.kill k), st := s.st.map (AV.kill k), ob := obSet k ⟨sz, hm.els ++ ys⟩ s.ob }
          ((hm.sz == sz) && (((appSrc sz s.ob ax).sz == sz) && ((appSrc sz s.ob ax).ok && decide ((hm.els.length + ys.length) * bytes ≤ 140737488355328)))) (.own k) D) := by
      intro b cap v w' hbl hr hsm hb hnew hv
      have h1 := h.reown (h2 := ⟨sz, hm.els ++ ys⟩) (b := b) (cap := cap) ho hsm hb hnew hmsz.symm (by simp) (fun e => hbl (by simp at e; simp [e])) s.ok
      refine ⟨v, w', ⟨fun j => if j = k then b else g.β j, fun j => if j = k then cap else g.cap j⟩, hexec _ _ hr, ?_⟩
      have h2 := h1.toFR.put hnd hd hfit ((hm.sz == sz) && (((appSrc sz s.ob ax).sz == sz) && ((appSrc sz s.ob ax).ok && decide ((hm.els.length + ys.length) * bytes ≤ 140737488355328)))) (v := v) (a := .own k) (fun _ => ⟨⟨sz, hm.els ++ ys⟩, by simp [obGet_obSet], by simpa using hv⟩)
      refine ⟨h2, h1.same, fun j hj => h1.hio j ?_, h1.fio, ?_⟩
      · revert hj
        cases D <;> exact id
      · have := h1.par
        revert this
        cases D <;> exact id
    by_cases hroom : hm.els.length + ys.length ≤ g.cap k
    · rcases Nat.eq_zero_or_pos (g.cap k) with hz | hz
      · have hx0 : hm.els = [] := h.nil_els ho hz
        have hy0 : ys = [] := List.length_eq_zero_iff.1 (by omega)
        subst hy0
        have hnw : news = #[] := Array.eq_empty_of_size_eq_zero (by simpa using hy.l)
        subst hnw
        have hH : ∀ S' : Nat → Prop, Home S' w (g.β k) 0 sz (hm.els ++ []) := fun S' => ⟨hsz1, by simp [hx0], fun i hi => by simp [hx0] at hi, fun hp => absurd hp (Nat.lt_irrefl _)⟩
        rcases hev with hev | ⟨_, hev⟩
        · have hr := run_app_room (P := P) (w := w) (w' := w) (ty := o.type) (base := some ⟨g.β k, 0, none⟩) (n := 0) (cap := 0) ht hu hsz hy.n hy.c (by simp) (fun a e => by simp [storeCells]) (fun e => by cases e)
          exact fin (g.β k) 0 _ w (fun _ => ⟨rfl, hz.symm⟩) (by rw [hev, hx0, hz]; exact hr) (Same.refl _ _) (fun hp => absurd hp (Nat.lt_irrefl _)) (fun S' _ => hH S') (.inl (by simp [hx0]))
        · have hr := run_app_room (P := P) (w := w) (w' := w) (ty := o.type) (base := none) (n := 0) (cap := 0) ht hu hsz hy.n hy.c (by simp) (fun a e => by cases e) (fun _ => rfl)
          exact fin (g.β k) 0 _ w (fun _ => ⟨rfl, hz.symm⟩) (by rw [hev]; exact hr) (Same.refl _ _) (fun hp => absurd hp (Nat.lt_irrefl _)) (fun S' _ => hH S') (.inr ⟨rfl, by simp⟩)
      · rcases hev with hev | ⟨hz2, _⟩
        rotate_left
        · omega
        obtain ⟨arr, T, fz, hr, hf, hsize, hvr⟩ := hh.row hz
        rw [hmsz] at hf hsize hvr
        have hbound : hm.els.length * sz + ys.length * sz ≤ arr.size := by
          rw [hsize, ← Nat.add_mul]; exact Nat.mul_le_mul_right _ hroom
        obtain ⟨w', arr', hrun, hsame, hb', hasz, hget⟩ := run_store_row (P := P) (g.β k) T fz news.toList (hm.els.length * sz) 0 arr w hr (hf.imp_right And.right) (by simp only [Array.length_toList, hy.l]; omega) (oneCells hsz1 hy)
        have hr2 := run_app_room (P := P) (w := w) (w' := w') (ty := o.type) (base := some ⟨g.β k, 0, none⟩) (n := hm.els.length) (cap := g.cap k) ht hu hsz hy.n hy.c hroom (fun a e => by cases e; rw [add_plain, Nat.zero_add]; exact hrun) (fun e => by cases e)
        refine fin (g.β k) (g.cap k) _ w' (fun _ => ⟨rfl, rfl⟩) (by rw [hev]; exact hr2) (hsame.mono fun c _ e => ⟨e, hz⟩) (fun _ => .inl ⟨rfl, hz⟩) (fun S' hS => ?_) (.inl rfl)
        have hS2 : ∀ c, S' c → SetOf F g s.ob c := fun c hc => by
          rcases hS c hc with e | e
          · exact e
          · exact .inr ⟨k, ⟨⟨hm, ho⟩, hz⟩, e.symm⟩
        have hmono : Same (SetOf F g s.ob) w w' := hsame.mono fun c _ e => .inr ⟨k, ⟨⟨hm, ho⟩, hz⟩, e.symm⟩
        refine ⟨hsz1, by simpa using hroom, fun i hi => ?_, fun _ => ⟨arr', T, fz, hb', by rw [hasz]; exact hf, by rw [hasz, hsize], fun i j hi hj => ?_⟩⟩
        · rw [els_app_getD]
          rw [List.length_append] at hi
          split
          · rename_i hc; rw [← hmsz]; exact hh.cells i hc
          · exact hy.e _ (by omega)
        · rw [List.length_append] at hi
          rw [hget, els_app_getD]
          simp only [Nat.add_zero, Array.length_toList, hy.l]
          by_cases hc : i < hm.els.length
          · rw [if_neg (by have := div_lt hc hj; omega), if_pos hc]
            exact (hvr i j hc hj).mono hmono fun b _ c => hS2 b c
          · have hge : hm.els.length * sz ≤ i * sz := Nat.mul_le_mul_right _ (by omega)
            have hlt : i * sz + j < (hm.els.length + ys.length) * sz := div_lt hi hj
            rw [Nat.add_mul] at hlt
            rw [if_pos (by omega), if_neg hc, getD_toList]
            have := hy.r (i - hm.els.length) j (by omega) hj
            rw [Nat.sub_mul, show i * sz - hm.els.length * sz + j = i * sz + j - hm.els.length * sz by omega] at this
            exact this.mono hmono fun b _ c => hS2 b c
    · have hbase : ∃ base, ({ tmps := tmps, defers := ds } : Act).eval p = .slice base hm.els.length (g.cap k) := by
        rcases hev with hev | ⟨hz, hev⟩
        · exact ⟨_, hev⟩
        · exact ⟨none, by rw [hev, hz, h.nil_els ho hz]; rfl⟩
      obtain ⟨base, hbase⟩ := hbase
      have hxc := hxd.c
      rw [hbase] at hxc
      have hg := run_app_grow (P := P) (w := w) (ty := o.type) (base := base) (n := hm.els.length) (cap := g.cap k) (olds := oldsd) (news := newsd) ht hu hsz hby hze hb1 hy.n hyd.c hxc (by omega) hyb
      have hge := grownCap_ge w (hm.els.length + ys.length) (g.cap k) e
      refine fin w.heap.size (grownCap w (hm.els.length + ys.length) (g.cap k) e) _ _ (fun e0 => absurd hh.len (by omega)) (by rw [hbase]; exact hg) ?_ (fun _ => .inr (Nat.le_refl _)) (fun S' hS => grownHome (w := w) (P := P) (e := e) (n := 0) hsz1 hzs hxd hyd hge hS) (.inl rfl)
      exact Same.mono (S := fun _ => False) ((Same.drew _ _).trans (Same.alloc _ _ _)) fun _ _ c => c.elim

/-! ### The first elements of a block of the frame's own -/

def cTrunc (P : Program) (vm ss : List Nat) (sz : Nat) (x hi : Src) : Op → Bool
  | .slice t y none (some h) none => chkSrc vm ss y x && (chkSrc vm ss h hi && (match slT P t with
    | some e => szT P e == some sz && !(sz == 0)
    | none => false))
  | _ => false

theorem getD_take {els : List AV} {n i : Nat} (hi : i < n) : (els.take n).getD i .any = els.getD i .any := by
  rw [List.getD_eq_getElem?_getD, List.getD_eq_getElem?_getD, List.getElem?_take, if_pos hi]

theorem putD_ok2 {s : St} {c : Bool} {a : AV} {D : Dst} (h : (putD s c a D).ok = true) : c = true := by
  have : s.ok = true ∧ c = true := by cases D <;> simpa [putD] using h
  exact this.2

theorem FX.trunc (h : FX F Iow w0 g0 o0 g w tmps vm ss s) (hnd : NdOk vm) {D : Dst} (hd : chkDst vm ss o.dst D = some ss') (hfit : ∀ d, o.dst = some d → d < tmps.size) {sz : Nat} {x hi : Src} (hc : cTrunc P vm ss sz x hi o.op = true)
    (hok : (truncA s D sz (idx (rd s hi)) (rd s x)).ok = true) :
    ∃ v w' g', (execOp ({ tmps := tmps, defers := ds } : Act).eval o).run P w = .ok (.value v) w' ∧ FX F Iow w0 g0 o0 g' w' (putT tmps o.dst v) vm ss' (truncA s D sz (idx (rd s hi)) (rd s x)) := by
  unfold cTrunc at hc
  split at hc
  · rename_i t y hh he
    simp only [Bool.and_eq_true] at hc
    obtain ⟨hs, hhh, hty⟩ := hc
    split at hty
    · rename_i e hsl
      simp only [Bool.and_eq_true, beq_iff_eq] at hty
      have hsz := hty.1
      have hu := slT_eq hsl
      have hv := h.toFR.src (ds := ds) hs
      revert hok
      generalize hn : idx (rd s hi) = n
      generalize rd s x = a at hv
      intro hok
      cases a <;> simp only [truncA, fail] at hok <;> try (cases hok; done)
      rename_i k
      obtain ⟨hm, ho, hev⟩ := hv
      simp only [truncA, ho, truncH] at hok ⊢
      have hk : hm.sz = sz ∧ k % 32 ≠ 31 ∧ 0 ≤ n ∧ n ≤ (hm.els.length : Int) := by
        have := putD_ok2 hok
        simp only [cutOk, Bool.and_eq_true, beq_iff_eq, decide_eq_true_eq, Bool.not_eq_true', beq_eq_false_iff_ne] at this
        exact ⟨this.1, this.2.1, this.2.2.2.1, this.2.2.2.2⟩
      obtain ⟨hmsz, hk31, h0, hb⟩ := hk
      have hH := h.home k hm ho
      have hb2 : ∃ kk, ({ tmps := tmps, defers := ds } : Act).eval hh = .int kk n := by
        have := sr_idx (h.toFR.src (ds := ds) hhh) (by rw [hn]; exact h0)
        rwa [hn] at this
      have hlen := hH.len
      have hrun := bounds_run P w (isS := true) (len := hm.els.length) (cap := g.cap k) (lo := none) (hi := some (({ tmps := tmps, defers := ds } : Act).eval hh)) (a := 0) (b := n) rfl hb2 (Int.le_refl 0) h0 (by omega)
      have hNew : ∀ S' : Nat → Prop, (∀ c, S' c → SetOf F g s.ob c ∨ c = g.β k) → Home S' w (g.β k) (g.cap k) hm.sz (hm.els.take n.toNat) := by
        intro S' hS
        refine ⟨hH.pos, by rw [List.length_take]; omega, fun i hi' => ?_, fun hp => ?_⟩
        · rw [List.length_take] at hi'
          rw [getD_take (by omega)]; exact hH.cells i (by omega)
        · obtain ⟨arr, T, fz, hr, hf, hsize, hvr⟩ := hH.row hp
          refine ⟨arr, T, fz, hr, hf, hsize, fun i j hi' hj => ?_⟩
          rw [List.length_take] at hi'
          rw [getD_take (by omega)]
          refine (hvr i j (by omega) hj).mono (Same.refl _ _) fun b _ hb' => ?_
          rcases hS b hb' with e1 | e1
          · exact e1
          · exact .inr ⟨k, ⟨⟨hm, ho⟩, hp⟩, e1.symm⟩
      have h1 := h.reown' (h2 := ⟨hm.sz, hm.els.take n.toNat⟩) (b := g.β k) (cap := g.cap k) ho (Same.refl _ w) (fun hp => .inl ⟨rfl, hp⟩) hNew (h.par.new (b := g.β k) (cap := g.cap k) hk31) s.ok
      have hfin : ∀ v, (execOp ({ tmps := tmps, defers := ds } : Act).eval o).run P w = .ok (.value v) w → (v = .slice (some ⟨g.β k, 0, none⟩) n.toNat (g.cap k) ∨ (g.cap k = 0 ∧ v = .slice none 0 0)) →
          ∃ v w' g', (execOp ({ tmps := tmps, defers := ds } : Act).eval o).run P w = .ok (.value v) w' ∧ FX F Iow w0 g0 o0 g' w' (putT tmps o.dst v) vm ss' (putD { s with vs := s.vs.map (AV.kill k), st := s.st.map (AV.kill k), ob := obSet k ⟨hm.sz, hm.els.take n.toNat⟩ s.ob }
            ((hm.sz == sz) && ((!(k % 32 == 31)) && cutOk 0 n hm.els.length)) (.own k) D) := by
        intro v hr hv
        refine ⟨v, w, ⟨fun j => if j = k then g.β k else g.β j, fun j => if j = k then g.cap k else g.cap j⟩, hr, ?_⟩
        have h2 := h1.toFR.put hnd hd hfit ((hm.sz == sz) && ((!(k % 32 == 31)) && cutOk 0 n hm.els.length)) (v := v) (a := .own k) (fun _ => ⟨⟨hm.sz, hm.els.take n.toNat⟩, by simp [obGet_obSet], by
          have e : (hm.els.take n.toNat).length = n.toNat := by rw [List.length_take]; omega
          simpa [e] using hv⟩)
        refine ⟨h2, h1.same, fun j hj => h1.hio j ?_, h1.fio, ?_⟩
        · revert hj
          cases D <;> exact id
        · have := h1.par
          revert this
          cases D <;> exact id
      rcases hev with hev | ⟨hz, hev⟩
      · refine hfin (.slice (some ⟨g.β k, 0, none⟩) n.toNat (g.cap k)) ?_ (.inl rfl)
        simp [execOp, he, Instr.sliceAt, Instr.slice, run_underlying hu, hev, hrun, run_szT hsz, add_plain]
      · have hx0 : hm.els.length = 0 := by omega
        have hn0 : n = 0 := by omega
        refine hfin (.slice none 0 0) ?_ (.inr ⟨hz, rfl⟩)
        rw [hx0, hz, hn0] at hrun
        simp [execOp, he, Instr.sliceAt, Instr.slice, run_underlying hu, hev, hrun, run_szT hsz]
    · cases hty
  · cases hc

end
end Go.Proofs.YtbobhejdijcofaaGreatDoor
