/- One operation of a statement. No condition. -/
import Derived.Test.YtbobhejdijcofaaGreatDoorEngQ
namespace Go.Proofs.YtbobhejdijcofaaGreatDoor
open Go Go.RowKit
set_option linter.unusedSimpArgs false
set_option linter.unusedVariables false

theorem clear_ok {s : St} {d : Nat} : (clear s d).ok = s.ok := by unfold clear; rw [cond_eq_if]; split <;> rfl

theorem putD_ok {s : St} {c : Bool} {a : AV} {D : Dst} (h : (putD s c a D).ok = true) : s.ok = true ∧ c = true := by cases D <;> simpa [putD] using h

theorem putM_ok {s : St} {key : Nat} {D : Dst} {m : Mk} (h : (putM s key D m).ok = true) : s.ok = true ∧ m.ok = true := by
  unfold putM at h
  cases hm : m.hs with
  | nil => rw [hm] at h; exact putD_ok h
  | cons p q =>
    rw [hm] at h
    simp only [putH] at h
    have := putD_ok h
    simpa [withOb, clear_ok] using this

theorem freezeH_get {s : St} {k j : Nat} : obGet j (freezeH s k (obGet k s.ob)).ob = if k = j then none else obGet j s.ob := by
  cases hk : obGet k s.ob with
  | none =>
    simp only [freezeH]
    by_cases e : k = j
    · rw [if_pos e, ← e, hk]
    · rw [if_neg e]
  | some h => simp only [freezeH, obGet_obDel]

theorem freezeAll_get {j : Nat} : ∀ (ks : List Nat) (s : St), obGet j (freezeAll s ks).ob = if j ∈ ks then none else obGet j s.ob
  | [], s => by simp [freezeAll]
  | k :: r, s => by
    simp only [freezeAll]
    rw [freezeAll_get r, freezeH_get]
    by_cases e1 : j ∈ r
    · simp [e1]
    · by_cases e2 : k = j
      · simp [e2]
      · simp [e1, e2, Ne.symm e2]

theorem argBlk {ob : Obs} {ms : List Md} {as : List AV} {k : Nat} {hm : Hm} (hlen : ms.length = as.length) (hsh : shapes ms (handArgs ob ms as) = true) (hg : obGet k (initOb 0 (handArgs ob ms as)) = some hm) :
    ∃ j k0, k = paramKey j ∧ j < as.length ∧ ms.getD j .bor ≠ .bor ∧ obGet k0 ob = some hm ∧ k0 ∈ (as.getD j .any).key1 ∧ kk as j = k0 ∧ k0 ∈ ioKeys ms as := by
  obtain ⟨_, hsg⟩ := shapes_get _ _ hsh
  have hhl := handArgs_len ob ms as hlen
  rw [hhl] at hsg
  obtain ⟨j, rfl, hf⟩ := initOb_key hg
  have hj : j < as.length := by
    rcases Nat.lt_or_ge j as.length with h' | h'
    · exact h'
    · rw [List.getD_eq_getElem?_getD, List.getElem?_eq_none (by rw [hhl]; exact h')] at hf; simp [fmHm] at hf
  rw [handArgs_get _ _ _ _ hlen hj] at hf
  have hs := hsg j hj
  rw [handArgs_get _ _ _ _ hlen hj] at hs
  obtain ⟨h1, k0, h2, h3, h4⟩ := hand_fm hf (fun e => hs.1 e)
  refine ⟨j, k0, rfl, hj, h1, h3, h4, ?_, ioKeys_mem ms as j hlen hj h1 k0 h4⟩
  unfold kk
  rcases h2 with ⟨e, _⟩ | ⟨_, e, _⟩ <;> rw [e] <;> rfl

theorem ioKeys_pos : ∀ (ms : List Md) (as : List AV) {k : Nat}, ms.length = as.length → k ∈ ioKeys ms as → k ∉ movKeys ms as → ∃ j, j < as.length ∧ ms.getD j .bor = .io ∧ k ∈ (as.getD j .any).key1
  | [], [], k, _, h, _ => by simp [ioKeys] at h
  | [], _ :: _, _, h, _, _ => by simp at h
  | _ :: _, [], _, h, _, _ => by simp at h
  | m :: ms, a :: as, k, hl, h, hn => by
    have ih := @ioKeys_pos ms as k (by simpa using hl)
    have up : (∃ j, j < as.length ∧ ms.getD j .bor = .io ∧ k ∈ (as.getD j .any).key1) → ∃ j, j < (a :: as).length ∧ (m :: ms).getD j .bor = .io ∧ k ∈ ((a :: as).getD j .any).key1 := by
      rintro ⟨j, h1, h2, h3⟩
      exact ⟨j + 1, by simpa using h1, by simpa using h2, by simpa using h3⟩
    cases m
    · exact up (ih (by simpa [ioKeys] using h) (by simpa [movKeys] using hn))
    · simp only [ioKeys, List.mem_append] at h
      rcases h with h | h
      · exact ⟨0, by simp, rfl, by simpa using h⟩
      · exact up (ih h (by simpa [movKeys] using hn))
    · simp only [ioKeys, movKeys, List.mem_append, not_or] at h hn
      rcases h with h | h
      · exact absurd h hn.1
      · exact up (ih h hn.2)

theorem getElem?_io {ms : List Md} {j : Nat} (h : ms.getD j .bor = .io) : ms[j]? = some .io := by
  rw [List.getD_eq_getElem?_getD] at h
  cases hm : ms[j]? with
  | none => rw [hm] at h; cases h
  | some m => rw [hm] at h; simpa using h

theorem noIo_getD {ms : List Md} (h : noIo ms = true) (j : Nat) : ms.getD j .bor ≠ .io := by
  intro e
  have h1 := getElem?_io e
  simp only [noIo, List.all_eq_true] at h
  have := h .io (List.mem_of_getElem? h1)
  simp at this

theorem flat_RV1 {S S' : Nat → Prop} {w : World} {g : Gh} {ob : Obs} {k : Nat} {v : Value} {a : AV} (hf : flatB a = true) (h : RV1 S w g ob k v a) : RV1 S' w g ob k v a := by
  cases a
  case fresh sz els => exact h
  case mem sz els ix => exact h
  all_goals first | exact flat1_VR hf h | (simp [flatB, flat1] at hf)

theorem flat_RV {S S' : Nat → Prop} {w : World} {g : Gh} {ob : Obs} {κ : Nat → Nat} {v : Value} {r : AV} (hf : flatA r = true) (h : RV S w g ob κ v r) : RV S' w g ob κ v r := by
  cases r
  case tup as =>
    obtain ⟨vs, rfl, hn, hall⟩ := h
    simp only [flatA, List.all_eq_true] at hf
    exact ⟨vs, rfl, hn, fun j hjl => flat_RV1 (hf _ (by rw [List.getD_eq_getElem?_getD, List.getElem?_eq_getElem hjl]; exact List.getElem_mem hjl)) (hall j hjl)⟩
  all_goals
    simp only [RV] at h ⊢
    exact flat_RV1 hf h

theorem flat_part {r : AV} (hf : flatA r = true) {i sz : Nat} {els : List AV} (hi : fpos r i) (hp : fmHm (partOf r i) = some ⟨sz, els⟩) : ∀ i, i < els.length → ((els.getD i .any).cells).all flat1 = true := by
  have fm : ∀ {x : AV}, flatB x = true → fmHm x = some ⟨sz, els⟩ → flatB (.fresh sz els) = true := by
    intro x hx he
    cases x <;> simp [fmHm] at he <;> obtain ⟨rfl, rfl⟩ := he <;> exact hx
  have key : flatB (.fresh sz els) = true := by
    cases r
    case tup as =>
      obtain ⟨j, rfl, hj, _⟩ := hi
      simp only [partOf, Nat.add_sub_cancel] at hp
      simp only [flatA, List.all_eq_true] at hf
      exact fm (hf _ (by rw [List.getD_eq_getElem?_getD, List.getElem?_eq_getElem hj]; exact List.getElem_mem hj)) hp
    case fresh a b => exact fm (x := .fresh a b) hf hp
    case mem a b c => exact fm (x := .mem a b c) hf hp
    all_goals
      obtain ⟨_, hfr⟩ := hi
      simp [isFr] at hfr
  intro j hj
  simp only [flatB, List.all_eq_true] at key
  exact key _ (by rw [List.getD_eq_getElem?_getD, List.getElem?_eq_getElem hj]; exact List.getElem_mem hj)

theorem flat_Home {S S' : Nat → Prop} {w : World} {b cap sz : Nat} {els : List AV} (hf : ∀ i, i < els.length → ((els.getD i .any).cells).all flat1 = true) (h : Home S w b cap sz els) : Home S' w b cap sz els := by
  refine ⟨h.pos, h.len, h.cells, fun hp => ?_⟩
  obtain ⟨arr, T, fz, hr, hfz, hs, hv⟩ := h.row hp
  refine ⟨arr, T, fz, hr, hfz, hs, fun i j hi hj => flat1_VR ?_ (hv i j hi hj)⟩
  have h1 := hf i hi
  have h2 := (h.cells i hi).1
  revert h1 h2
  generalize (els.getD i .any).cells = cs
  intro h1 h2
  simp only [List.all_eq_true] at h1
  exact h1 _ (by rw [List.getD_eq_getElem?_getD, List.getElem?_eq_getElem (by omega)]; exact List.getElem_mem _)

theorem RV.fresh {S : Nat → Prop} {w : World} {g : Gh} {ob : Obs} {κ : Nat → Nat} {v : Value} {r : AV} (h : RV S w g ob κ v r) {i : Nat} (hi : fpos r i) : ∃ sz els, fmHm (partOf r i) = some ⟨sz, els⟩ ∧ obGet (κ i) ob = some ⟨sz, els⟩ := by
  cases r
  case tup as =>
    obtain ⟨vs, rfl, hn, hall⟩ := h
    obtain ⟨j, rfl, hj, hfr⟩ := hi
    have h1 := hall j hj
    simp only [partOf, Nat.add_sub_cancel]
    revert h1 hfr
    generalize as.getD j .any = x
    intro hfr h1
    cases x <;> simp [isFr] at hfr <;> exact ⟨_, _, rfl, h1.1⟩
  case fresh sz els =>
    obtain ⟨rfl, _⟩ := hi
    exact ⟨sz, els, rfl, h.1⟩
  case mem sz els ix =>
    obtain ⟨rfl, _⟩ := hi
    exact ⟨sz, els, rfl, h.1⟩
  all_goals
    obtain ⟨_, hfr⟩ := hi
    simp [isFr] at hfr

section
variable {F Iow : Nat → Prop} {w0 : World} {g0 : Gh} {o0 : Obs} {g : Gh} {w w' : World} {tmps : Array Value} {ds : List Deferred} {vm ss ss' : List Nat} {s : St} {P : Program} {o : Oper} {key : Nat}

theorem FX.call (h : FX F Iow w0 g0 o0 g w tmps vm ss s) (hnd : NdOk vm) {dst : Option Nat} {D : Dst} (hd : chkDst vm ss dst D = some ss') (hfit : ∀ d, dst = some d → d < tmps.size) {f : FuncId} {C : Ctr} (hC : Sound P f C)
    {vals : Array Value} {as : List AV} (hsz : vals.size = as.length) (hv : ∀ j, j < as.length → SR (SetOf F g s.ob) w g s.ob (vals.getD j undef) (as.getD j .any)) (hok : (callC s key D as (some C)).ok = true) :
    Invokes P f vals w fun e w' => ∃ v g', e = .returned v ∧ FX F Iow w0 g0 o0 g' w' (putT tmps dst v) vm ss' (callC s key D as (some C)) := by
  simp only [callC, callBack] at hok ⊢
  generalize hq : C.F (handArgs s.ob C.modes as) = q at hok ⊢
  obtain ⟨hok1, hok2⟩ := putM_ok hok
  simp only [also, Bool.and_eq_true, beq_iff_eq] at hok2
  obtain ⟨⟨⟨hsh, hlen, hdis, hap⟩, hqok⟩, hadok⟩ := hok2
  -- the state in which the callee begins
  have h1 : FX F Iow w0 g0 o0 g w tmps vm ss (unfl C s as) := by
    unfold unfl; rw [cond_eq_if]; split
    · exact h
    · exact h.freezeAll _
  have hsub : ∀ k hm, obGet k (unfl C s as).ob = some hm → obGet k s.ob = some hm ∧ (C.flat = false → k ∉ borKeys C.modes as) := by
    intro k hm hg
    unfold unfl at hg
    rw [cond_eq_if] at hg
    split at hg
    · rename_i e; exact ⟨hg, fun e2 => by rw [e] at e2; cases e2⟩
    · rw [freezeAll_get] at hg
      split at hg
      · cases hg
      · rename_i e; exact ⟨hg, fun _ => e⟩
  have hkeep : ∀ k hm, k ∈ ioKeys C.modes as → obGet k s.ob = some hm → obGet k (unfl C s as).ob = some hm := by
    intro k hm hk hg
    unfold unfl
    rw [cond_eq_if]
    split
    · exact hg
    · rw [freezeAll_get, if_neg (fun e => apart_ne hap hk e)]; exact hg
  generalize unfl C s as = s1 at h1 hsub hkeep hok hok1 ⊢
  have hlsub : ∀ k, liv g s1.ob k → liv g s.ob k := fun k ⟨⟨hm, hg⟩, hp⟩ => ⟨⟨hm, (hsub k hm hg).1⟩, hp⟩
  have hset1 : ∀ b, SetOf F g s1.ob b → SetOf F g s.ob b := fun b hb => SetOf_sub (fun k ⟨hm, hg⟩ => ⟨hm, (hsub k hm hg).1⟩) hb
  let Fc : Nat → Prop := fun b => SetOf F g s1.ob b ∧ ∀ k, (k ∈ ioKeys C.modes as ∨ k ∈ borKeys C.modes as) → liv g s.ob k → g.β k ≠ b
  have hargs := h.toFR.args (Fc := Fc) hsz hv hdis hap hlen hsh (fun b hb => ⟨hset1 b hb.1, hb.2⟩)
  have hhl := handArgs_len s.ob C.modes as hlen
  obtain ⟨hflat, hinv⟩ := hC.2 Fc (callGh g as) w (handArgs s.ob C.modes as) vals hsh (by rw [hsz, hhl]) (by rw [hhl]; exact hargs) (by rw [hq]; exact hqok)
  rw [hq] at hflat hinv
  refine hinv.mono fun e w' he => ?_
  obtain ⟨v, gb, obb, κ, rfl, B⟩ := he
  have gk : ∀ j, (callGh g as).β (paramKey j) = g.β (kk as j) ∧ (callGh g as).cap (paramKey j) = g.cap (kk as j) := fun j => by
    simp [callGh, paramKey_div]
  -- the blocks of the parameters are blocks of the caller
  have hpar : ∀ k, liv (callGh g as) (initOb 0 (handArgs s.ob C.modes as)) k → ∃ k0, k0 ∈ ioKeys C.modes as ∧ liv g s1.ob k0 ∧ g.β k0 = (callGh g as).β k := by
    rintro k ⟨⟨hm, hg⟩, hp⟩
    obtain ⟨j, k0, rfl, hj, _, ho, _, ek, hio⟩ := argBlk hlen hsh hg
    rw [(gk j).2, ek] at hp
    exact ⟨k0, hio, ⟨⟨hm, hkeep k0 hm hio ho⟩, hp⟩, by rw [(gk j).1, ek]⟩
  have hsame1 : Same (SetOf F g s1.ob) w w' := B.same.mono fun b _ ⟨k, hk, e⟩ => by
    obtain ⟨k0, _, hl, e0⟩ := hpar k hk
    exact .inr ⟨k0, hl, by rw [e0, e]⟩
  have hsize := B.same.size
  -- the blocks that may be written behind the call
  let SF : Nat → Prop := fun b => F b ∨ (∃ k, liv g s1.ob k ∧ k ∉ movKeys C.modes as ∧ g.β k = b) ∨ ∃ i, fpos q.r i ∧ 0 < gb.cap (κ i) ∧ gb.β (κ i) = b
  have hSFold : ∀ b, b < w.heap.size → SF b → SetOf F g s1.ob b := by
    rintro b hb (hf | ⟨k, hk, _, e⟩ | ⟨i, hi, hp, e⟩)
    · exact .inl hf
    · exact .inr ⟨k, hk, e⟩
    · obtain ⟨sz, els, _, hg⟩ := B.val.fresh hi
      rcases B.hio (κ i) ⟨⟨_, hg⟩, hp⟩ with hge | ⟨k', hk', e'⟩
      · omega
      · obtain ⟨k0, _, hl, e0⟩ := hpar k' hk'
        exact .inr ⟨k0, hl, by rw [e0, e', e]⟩
  -- where io-blocks lie
  have hioB : ∀ k, k ∈ ioKeys C.modes as → k ∉ movKeys C.modes as → liv g s1.ob k → ∃ j, C.modes[j]? = some .io ∧ gb.β (paramKey j) = g.β k ∧ liv gb obb (paramKey j) := by
    intro k hk hm hl
    obtain ⟨j, hj, hmj, hkey⟩ := ioKeys_pos C.modes as hlen hk hm
    obtain ⟨sz, e0, els, hcase, hel, hgo, hb, hcp⟩ := B.out j (getElem?_io hmj)
    have hkk : kk as j = k := by
      unfold kk
      revert hkey
      generalize as.getD j .any = x
      intro hkey
      cases x <;> simp [AV.key1] at hkey ⊢ <;> exact hkey.symm
    refine ⟨j, getElem?_io hmj, by rw [hb, (gk j).1, hkk], ⟨_, hgo⟩, ?_⟩
    rw [hcp, (gk j).2, hkk]; exact hl.2
  have hFc : C.flat = false → ∀ k, liv g s1.ob k → k ∉ ioKeys C.modes as → Fc (g.β k) := by
    intro hfl k hl hk
    refine ⟨.inr ⟨k, hl, rfl⟩, fun k' hk' hl' e => ?_⟩
    have := h.inj k' k hl' (hlsub k hl) e
    subst this
    rcases hk' with hk' | hk'
    · exact hk hk'
    · obtain ⟨hm, hg⟩ := hl.1
      exact (hsub k' hm hg).2 hfl hk'
  have hFF : ∀ b, F b → Fc b := fun b hb => ⟨.inl hb, fun k _ hl e => h.nF k hl (by rw [e]; exact hb)⟩
  have hSub : C.flat = false → ∀ b, SF b → SetOf Fc gb obb b := by
    rintro hfl b (hf | ⟨k, hk, hm, e⟩ | ⟨i, hi, hp, e⟩)
    · exact .inl (hFF b hf)
    · by_cases hio : k ∈ ioKeys C.modes as
      · obtain ⟨j, _, hb, hl⟩ := hioB k hio hm hk
        exact .inr ⟨paramKey j, hl, by rw [hb, e]⟩
      · exact .inl (e ▸ hFc hfl k hk hio)
    · obtain ⟨sz, els, _, hg⟩ := B.val.fresh hi
      exact .inr ⟨κ i, ⟨⟨_, hg⟩, hp⟩, e⟩
  -- the frame at the end of the call
  have FS0 : FrSt SF (fun k => k ∈ ioKeys C.modes as) g w' tmps vm ss s1 := by
    refine ⟨fun k hm hk hg => (h1.home k hm hg).mono hsame1 (fun hp => ?_) hSFold, h1.vl, h1.sl, fun i hi => (h1.vs i hi).mono hsame1 hSFold fun k _ hm hg => ⟨hm, hg, rfl, rfl, rfl, rfl⟩,
      fun i hi => (h1.st i hi).mono hsame1 hSFold fun k _ hm hg => ⟨hm, hg, rfl, rfl, rfl, rfl⟩, h1.fit⟩
    refine B.same.block _ ((h1.home k hm hg).lt hp) ?_
    rintro ⟨k', hk', e⟩
    obtain ⟨k0, hio, hl, e0⟩ := hpar k' hk'
    exact hk (h1.inj k k0 ⟨⟨hm, hg⟩, hp⟩ hl (by rw [e0, e]) ▸ hio)
  have hIB : IoBack SF g w' s1.ob C.modes as q.outs := by
    intro j hj hmj
    have hfl : C.flat = false := by
      cases hfl : C.flat with
      | false => rfl
      | true => exact absurd hmj (noIo_getD (hC.1 hfl) j)
    obtain ⟨sz, e0, els, hcase, hel, hgo, hb, hcp⟩ := B.out j (getElem?_io hmj)
    have hf : fmHm (handArg s.ob (C.modes.getD j .bor) (as.getD j .any)) = some ⟨sz, e0⟩ := by
      rw [← handArgs_get s.ob C.modes as j hlen hj]
      rcases hcase with ⟨e, _⟩ | ⟨_, _, e, _⟩ <;> rw [e] <;> rfl
    obtain ⟨_, k0, h2, h3, h4⟩ := hand_fm hf (fun e => by rw [hmj] at e; cases e)
    have hio := ioKeys_mem C.modes as j hlen hj (by rw [hmj]; decide) k0 h4
    have ek : kk as j = k0 := by unfold kk; rcases h2 with ⟨e, _⟩ | ⟨_, e, _⟩ <;> rw [e] <;> rfl
    have hH := (B.home (paramKey j) ⟨sz, els⟩ hgo).mono (Same.refl (SetOf Fc gb obb) w') (fun _ => rfl) (S' := SF) fun b _ hb => hSub hfl b hb
    rw [hb, hcp, (gk j).1, (gk j).2, ek] at hH
    have hso := hkeep k0 _ hio h3
    have hcase2 := hcase
    rw [handArgs_get s.ob C.modes as j hlen hj] at hcase2
    refine ⟨k0, ⟨sz, e0⟩, sz, els, ?_, hso, rfl, hel, hH⟩
    rcases h2 with ⟨e, e2⟩ | ⟨i0, e, e2⟩
    · rcases hcase2 with ⟨_, e3⟩ | ⟨_, _, e4, _⟩
      · exact .inl ⟨e, e3⟩
      · rw [e2] at e4; cases e4
    · rcases hcase2 with ⟨e4, _⟩ | ⟨_, i', _, e3⟩
      · rw [e2] at e4; cases e4
      · exact .inr ⟨i0, i', e, e3⟩
  obtain ⟨FS1, hs1ok, htb⟩ := takeBack_ok C.modes as q.outs FS0 hlen hIB hdis hok1
  have FS2 : FrSt SF (fun _ => False) g w' tmps vm ss (takeBack s1 C.modes as q.outs) := FS1.pend' fun k _ hp => hp.2 hp.1
  have hval : ∃ S' : Nat → Prop, RV S' w' gb obb κ v q.r ∧ ∀ b, SF b → S' b := by
    cases hfl : C.flat with
    | true => exact ⟨SF, flat_RV (hflat hfl) B.val, fun _ c => c⟩
    | false => exact ⟨_, B.val, hSub hfl⟩
  obtain ⟨S', hval, hSS⟩ := hval
  generalize takeBack s1 C.modes as q.outs = s2 at hok FS2 htb ⊢
  generalize ((shapes C.modes (handArgs s.ob C.modes as) && (C.modes.length == as.length && (distinct (ioKeys C.modes as) && apart (ioKeys C.modes as) (borKeys C.modes as)))) && q.ok) = c0 at hok ⊢
  obtain ⟨FS3, _, _, hch⟩ := FS2.adopt hnd hd hfit hval hSS (fun i hi sz els hp => by
    obtain ⟨sz', els', e1, e2⟩ := B.val.fresh hi
    rw [hp] at e1; cases e1
    cases hfl : C.flat with
    | true => exact flat_Home (flat_part (hflat hfl) hi hp) (B.home (κ i) ⟨sz, els⟩ e2)
    | false => exact (B.home (κ i) ⟨sz, els⟩ e2).mono (Same.refl (SetOf Fc gb obb) w') (fun _ => rfl) (S' := SF) fun b _ hb => hSub hfl b hb) hok
  refine ⟨v, backGh g gb κ key q.r, rfl, ?_⟩
  generalize putM s2 key D (also c0 (adopt key q.r)) = s3 at FS3 hch ⊢
  -- what is in it
  have hin : ∀ k, liv (backGh g gb κ key q.r) s3.ob k → (k / 32 = key ∧ fpos q.r (k % 32) ∧ (backGh g gb κ key q.r).β k = gb.β (κ (k % 32)) ∧ liv gb obb (κ (k % 32))) ∨
      (k ∉ movKeys C.modes as ∧ liv g s1.ob k ∧ (backGh g gb κ key q.r).β k = g.β k) := by
    rintro k ⟨⟨hm, hg⟩, hp⟩
    rcases hch k hm hg with e | ⟨e, hg2⟩
    · have hfp := fposB_iff.1 e.2
      obtain ⟨sz, els, _, hgo⟩ := B.val.fresh hfp
      simp only [backGh, if_pos e] at hp
      exact .inl ⟨e.1, hfp, by simp only [backGh, if_pos e], ⟨_, hgo⟩, hp⟩
    · obtain ⟨hnm, h0, hg0, _⟩ := htb k hm hg2
      simp only [backGh, if_neg e] at hp
      exact .inr ⟨hnm, ⟨⟨h0, hg0⟩, hp⟩, by simp only [backGh, if_neg e]⟩
  have hfin : ∀ b, SetOf F (backGh g gb κ key q.r) s3.ob b → SF b := by
    rintro b (hf | ⟨k, hk, e⟩)
    · exact .inl hf
    · rcases hin k hk with ⟨_, hfp, e2, hl⟩ | ⟨hnm, hl, e2⟩
      · exact .inr (.inr ⟨_, hfp, hl.2, by rw [← e2, e]⟩)
      · exact .inr (.inl ⟨k, hl, hnm, by rw [← e2, e]⟩)
  have hmix : ∀ k k', (fpos q.r (k % 32) ∧ liv gb obb (κ (k % 32))) → (k' ∉ movKeys C.modes as ∧ liv g s1.ob k') → gb.β (κ (k % 32)) ≠ g.β k' := by
    rintro k k' ⟨hfp, hl⟩ ⟨hnm, hl'⟩ e
    by_cases hio : k' ∈ ioKeys C.modes as
    · obtain ⟨j, hmj, hb, hlj⟩ := hioB k' hio hnm hl'
      exact B.κio _ j hfp hmj (B.inj _ _ hl hlj (by rw [e, hb]))
    · rcases B.hio _ hl with hge | ⟨k2, hk2, e2⟩
      · obtain ⟨⟨hm, hg⟩, hp⟩ := hl'
        have := (h1.home k' hm hg).lt hp
        rw [e] at hge; omega
      · obtain ⟨k0, hio0, hl0, e0⟩ := hpar k2 hk2
        have := h1.inj k0 k' hl0 hl' (by rw [e0, e2, e])
        exact hio (this ▸ hio0)
  have hfr : FR F (backGh g gb κ key q.r) w' (putT tmps dst v) vm ss' s3 := by
    refine ⟨fun k hm hg => (FS3.home k hm (fun c => c) hg).mono (Same.refl SF w') (fun _ => rfl) fun b _ hb => hfin b hb, fun k k' hk hk' e => ?_, fun k hk => ?_, fun b hb => Nat.lt_of_lt_of_le (h1.fb b hb) hsize, FS3.vl, FS3.sl,
      fun i hi => (FS3.vs i hi).mono (Same.refl SF w') (fun b _ hb => hfin b hb) fun k _ hm hg => ⟨hm, hg, rfl, rfl, rfl, rfl⟩, fun i hi => (FS3.st i hi).mono (Same.refl SF w') (fun b _ hb => hfin b hb) fun k _ hm hg => ⟨hm, hg, rfl, rfl, rfl, rfl⟩, FS3.fit, h1.tab.mono hsame1 fun b hb c => hSFold b hb (hfin b c)⟩
    · rcases hin k hk with ⟨d1, f1, e1, l1⟩ | ⟨n1, l1, e1⟩ <;> rcases hin k' hk' with ⟨d2, f2, e2, l2⟩ | ⟨n2, l2, e2⟩ <;> rw [e1, e2] at e
      · have := B.κinj _ _ f1 f2 (B.inj _ _ l1 l2 e)
        omega
      · exact absurd e (hmix k k' ⟨f1, l1⟩ ⟨n2, l2⟩)
      · exact absurd e.symm (hmix k' k ⟨f2, l2⟩ ⟨n1, l1⟩)
      · exact h1.inj k k' l1 l2 e
    · rcases hin k hk with ⟨d1, f1, e1, l1⟩ | ⟨n1, l1, e1⟩ <;> rw [e1]
      · exact fun hf => B.nF _ l1 (hFF _ hf)
      · exact h1.nF k l1
  refine ⟨hfr, h1.same.into (B.same.mono fun b _ ⟨k, hk, e⟩ => ?_), fun k hk => ?_, h1.fio, fun k hm hk hg => ?_⟩
  · obtain ⟨k0, _, hl, e0⟩ := hpar k hk
    rw [← e, ← e0]; exact h1.hio k0 hl
  · rcases hin k hk with ⟨d1, f1, e1, l1⟩ | ⟨n1, l1, e1⟩ <;> rw [e1]
    · rcases B.hio _ l1 with hge | ⟨k', hk', e'⟩
      · exact .inl (Nat.le_trans h1.same.size hge)
      · obtain ⟨k0, _, hl, e0⟩ := hpar k' hk'
        rw [← e', ← e0]; exact h1.hio k0 hl
    · exact h1.hio k l1
  · rcases hch k hm hg with e | ⟨e, hg2⟩
    · exfalso
      have hB := e.2
      rw [hk] at hB
      have hlt : ∀ cs, q.r = .tup cs → cs.length < 31 := fun cs hcs => by rw [hcs] at hadok; simpa [adopt] using hadok
      revert hB hlt
      generalize q.r = x
      intro hB hlt
      cases x <;> simp [fposB] at hB
      have := hlt _ rfl
      omega
    · obtain ⟨hnm, h0, hg0, hz, hl⟩ := htb k hm hg2
      obtain ⟨h00, a1, a2, a3, a4⟩ := h1.par k h0 hk hg0
      refine ⟨h00, a1, by rw [hz, a2], by omega, fun e2 => ?_⟩
      obtain ⟨b1, b2⟩ := a4 (by omega)
      simp only [backGh, if_neg e]
      exact ⟨b1, b2⟩

end

open Go Go.RowKit
set_option linter.unusedSimpArgs false
set_option linter.unusedVariables false

def cCall (vm ss : List Nat) (f : Nat) (args : List Src) : Op → Bool
  | .call { callee := .value (.func f'), args := xs, argTypes := _ } => f' == f && chkL vm ss xs.toList args
  | _ => false

def cCallv (vm ss : List Nat) (fs : Src) (args : List Src) : Op → Bool
  | .call { callee := .value y, args := xs, argTypes := _ } => chkSrc vm ss y fs && chkL vm ss xs.toList args
  | _ => false

/-- Every contract of the table holds. -/
def TSound (P : Program) (T : Tbl) : Prop := ∀ f C, T f = some C → Sound P f C

section
variable {F Iow : Nat → Prop} {w0 : World} {g0 : Gh} {o0 : Obs} {g : Gh} {w w' : World} {tmps : Array Value} {ds : List Deferred} {vm ss ss' : List Nat} {s : St} {P : Program} {o : Oper} {key : Nat} {T : Tbl} {D : Dst}
  {K : Act → World → Prop} {Q : Exit → Act → World → Prop}

theorem FX.unS (h : FX F Iow w0 g0 o0 g w tmps vm ss s) : FX F Iow w0 g0 o0 g w tmps vm ss (unS s) := ⟨h.toFR.unS, h.same, h.hio, h.fio, h.par⟩
theorem FX.setOk (h : FX F Iow w0 g0 o0 g w tmps vm ss s) (ok : Bool) : FX F Iow w0 g0 o0 g w tmps vm ss { s with ok := ok } := ⟨h.toFR.setOk ok, h.same, h.hio, h.fio, h.par⟩

theorem upon_invokes {f : FuncId} {vals : Array Value} {R : Ending → World → Prop} (h : Invokes P f vals w R) {a : Act} (hr : ∀ v w', R (.returned v) w' → K (a.put o.dst v) w') (hp : ∀ c w', ¬ R (.panicked c) w') (hout : ∀ w', ¬ R .outgrown w') :
    o.upon P a K Q ((callFunc f vals).run P w) := by
  unfold Invokes at h
  split at h
  · rename_i v w' e; rw [e]; exact hr _ _ h
  · rename_i f' args' w' e
    rw [e, Oper.upon_enter]
    refine Calls.mono h fun en w'' he => ?_
    cases en with
    | returned v => exact hr _ _ he
    | panicked c => exact (hp _ _ he).elim
    | outgrown => exact (hout _ he).elim
  · exact h.elim

theorem put_eq (tmps : Array Value) (ds : List Deferred) (dst : Option Nat) (v : Value) : ({ tmps := tmps, defers := ds } : Act).put dst v = ⟨putT tmps dst v, ds⟩ := by cases dst <;> rfl

theorem putT_size (tmps : Array Value) (dst : Option Nat) (v : Value) : (putT tmps dst v).size = tmps.size := by cases dst <;> simp [putT]

theorem callee_run {ρ : Operand → Value} {y : Operand} {xs : Array Operand} {tys : Array TypeId} {f : FuncId} {v1 v2 : Array Value} (hy : ρ y = .func (.func f) v1 v2) (ho : o.op = .call { callee := .value y, args := xs, argTypes := tys }) :
    (execOp ρ o).run P w = (callFunc f (v1 ++ xs.map ρ ++ v2)).run P w := by
  unfold execOp
  simp only [ho, resolve, hy, Deferred.ofValue, invoke, Sem.run_bind, Sem.run_pure, Result.andThen_ok]

/-- A call: the frame behind it. -/
theorem step_call (hT : TSound P T) (h : FX F Iow w0 g0 o0 g w tmps vm ss s) (hnd : NdOk vm) (hd : chkDst vm ss o.dst D = some ss') (hfit : ∀ d, o.dst = some d → d < tmps.size) {c : Cal} {vals : Array Value}
    (hsz : vals.size = c.args.length) (hv : ∀ j, j < c.args.length → SR (SetOf F g s.ob) w g s.ob (vals.getD j undef) (c.args.getD j .any)) (hok : (doCall T s key D c).ok = true)
    (hK : ∀ tmps' w' g', tmps'.size = tmps.size → FX F Iow w0 g0 o0 g' w' tmps' vm ss' (doCall T s key D c) → K ⟨tmps', ds⟩ w') : o.upon P ⟨tmps, ds⟩ K Q ((callFunc c.f vals).run P w) := by
  unfold doCall at hok hK
  cases hC : T c.f with
  | none => rw [hC] at hok; simp [callC, fail] at hok
  | some C =>
    rw [hC] at hok hK
    have := (h.setOk (s.ok && c.ok)).call (key := key) hnd hd hfit (hT _ _ hC) hsz hv hok
    refine upon_invokes this (fun v w' hR => ?_) (fun c w' hR => ?_) (fun w' hR => ?_)
    · obtain ⟨v', g', e, hfx⟩ := hR
      cases e
      rw [put_eq]
      exact hK _ _ _ (putT_size _ _ _) hfx
    · obtain ⟨v', g', e, _⟩ := hR; cases e
    · obtain ⟨v', g', e, _⟩ := hR; cases e

/-- A call behind a guard: it only gives a value. -/
theorem step_callG (hT : TSound P T) (h : FX F Iow w0 g0 o0 g w tmps vm ss s) {c : Cal} {vals : Array Value}
    (hsz : vals.size = c.args.length) (hv : ∀ j, j < c.args.length → SR (SetOf F g s.ob) w g s.ob (vals.getD j undef) (c.args.getD j .any)) (hok : (doCallG T s.ob c).ok = true) (hl : (doCallG T s.ob c).v.lone = true) (hh : (doCallG T s.ob c).hs = []) :
    Invokes P c.f vals w fun e w' => ∃ v, e = .returned v ∧ Same (fun _ => False) w w' ∧ SR (SetOf F g s.ob) w' g s.ob v (doCallG T s.ob c).v := by
  simp only [doCallG, also, Bool.and_eq_true] at hok hl hh ⊢
  cases hC : T c.f with
  | none => rw [hC] at hok; simp [callG, bad] at hok
  | some C =>
    rw [hC] at hok hl hh
    simp only [callG, also, Bool.and_eq_true, beq_iff_eq, Bool.or_eq_true] at hok hl hh ⊢
    obtain ⟨_, ⟨hlen, ⟨hsh, hbor⟩, hfl, hqok⟩, had⟩ := hok
    have hS := hT _ _ hC
    have hms : ∀ j, C.modes.getD j .bor = .bor := by
      intro j
      simp only [List.all_eq_true, beq_iff_eq] at hbor
      rw [List.getD_eq_getElem?_getD]
      cases hm : C.modes[j]? with
      | none => rfl
      | some m => exact hbor m (List.mem_of_getElem? hm)
    have hio : ∀ k, k ∉ ioKeys C.modes c.args := by
      have gen : ∀ (ms : List Md) (as : List AV), (∀ m, m ∈ ms → m = .bor) → ioKeys ms as = [] := by
        intro ms
        induction ms with
        | nil => intro as _; rfl
        | cons m ms ih =>
          intro as hall
          have := hall m (by simp)
          subst this
          cases as with
          | nil => rfl
          | cons a as => exact ih as fun m hm => hall m (by simp [hm])
      simp only [List.all_eq_true, beq_iff_eq] at hbor
      intro k hk
      rw [gen _ _ hbor] at hk; simp at hk
    have hioe : ioKeys C.modes c.args = [] := List.eq_nil_iff_forall_not_mem.2 hio
    let Fc : Nat → Prop := fun b => SetOf F g s.ob b ∧ ∀ k, (k ∈ ioKeys C.modes c.args ∨ k ∈ borKeys C.modes c.args) → liv g s.ob k → g.β k ≠ b
    have hargs := h.toFR.args (Fc := Fc) (ms := C.modes) hsz hv (by rw [hioe]; rfl) (by rw [hioe]; rfl) hlen hsh (fun b hb => hb)
    have hhl := handArgs_len s.ob C.modes c.args hlen
    obtain ⟨hflat, hinv⟩ := hS.2 Fc (callGh g c.args) w (handArgs s.ob C.modes c.args) vals hsh (by rw [hsz, hhl]) (by rw [hhl]; exact hargs) hqok
    refine hinv.mono fun e w' he => ?_
    obtain ⟨v, gb, obb, κ, rfl, B⟩ := he
    have hnone : ∀ k, ¬ liv (callGh g c.args) (initOb 0 (handArgs s.ob C.modes c.args)) k := by
      rintro k ⟨⟨hm, hg⟩, _⟩
      obtain ⟨j, k0, _, _, hne, _⟩ := argBlk hlen hsh hg
      exact hne (hms j)
    refine ⟨v, rfl, B.same.mono fun b _ ⟨k, hk, _⟩ => (hnone k hk).elim, ?_⟩
    -- the value
    have hval : ∃ S' : Nat → Prop, RV S' w' gb obb κ v (C.F (handArgs s.ob C.modes c.args)).r ∧ (∀ b, SetOf F g s.ob b → S' b) ∧
        ∀ sz els, fpos (C.F (handArgs s.ob C.modes c.args)).r 0 → fmHm (partOf (C.F (handArgs s.ob C.modes c.args)).r 0) = some ⟨sz, els⟩ → obGet (κ 0) obb = some ⟨sz, els⟩ → Home (SetOf F g s.ob) w' (gb.β (κ 0)) (gb.cap (κ 0)) sz els := by
      rcases hfl with hfl | hfl
      · exact ⟨SetOf F g s.ob, flat_RV (hflat hfl) B.val, fun _ c => c, fun sz els h1 h2 h3 => flat_Home (flat_part (hflat hfl) h1 h2) (B.home (κ 0) ⟨sz, els⟩ h3)⟩
      · have hSS : ∀ b, SetOf F g s.ob b → SetOf Fc gb obb b := by
          refine fun b hb => .inl ⟨hb, fun k hk _ _ => ?_⟩
          have hbe : ∀ (ms : List Md) (as : List AV), (∀ a, a ∈ as → a.keys = []) → borKeys ms as = [] := by
            intro ms
            induction ms with
            | nil => intro as _; cases as <;> rfl
            | cons m ms ih =>
              intro as hall
              cases as with
              | nil => cases m <;> rfl
              | cons a as =>
                have i1 := ih as fun a ha => hall a (by simp [ha])
                cases m <;> simp [borKeys, i1, hall a (by simp)]
          simp only [List.all_eq_true, List.isEmpty_iff] at hfl
          rcases hk with hk | hk
          · exact hio k hk
          · rw [hbe _ _ hfl] at hk; simp at hk
        exact ⟨_, B.val, hSS, fun sz els _ _ h3 => (B.home (κ 0) ⟨sz, els⟩ h3).mono (Same.refl _ _) (fun _ => rfl) fun b _ hb => hSS b hb⟩
    obtain ⟨S', hval, hSS, hHome⟩ := hval
    revert hval had hl hh hHome
    generalize (C.F (handArgs s.ob C.modes c.args)).r = r
    intro had hl hh hval hHome
    have blk : ∀ {sz : Nat} {els : List AV}, obGet (κ 0) obb = some ⟨sz, els⟩ → Home (SetOf F g s.ob) w' (gb.β (κ 0)) (gb.cap (κ 0)) sz els →
        VR (SetOf F g s.ob) w' (.slice (some ⟨gb.β (κ 0), 0, none⟩) els.length (gb.cap (κ 0))) (.sl sz els) ∧ (gb.cap (κ 0) = 0 → VR (SetOf F g s.ob) w' (.slice none 0 0) (.sl sz els)) ∧
        ∀ i off, i < els.length → VR (SetOf F g s.ob) w' (.pointer (some ⟨gb.β (κ 0), i * sz + off, none⟩)) (.ptr sz els i off) := by
      intro sz els ho hH
      obtain ⟨rr, hcell⟩ := hH.cell
      refine hH.sl hcell (fun _ c => c) fun hp c => ?_
      have hlt := h.toFR.setLt c
      rcases B.hio (κ 0) ⟨⟨_, ho⟩, hp⟩ with hge | ⟨k', hk', _⟩
      · omega
      · exact hnone k' hk'
    cases r <;> simp [adoptF, adopt, just, bad, when] at had hl hh
    case fresh sz els =>
      obtain ⟨q1, q2, _⟩ := blk hval.1 (hHome sz els ⟨rfl, rfl⟩ rfl hval.1)
      rcases hval.2 with e | ⟨e0, e⟩
      · rw [e]; exact q1.toSR
      · rw [e]; exact (q2 e0).toSR
    case mem sz els ix =>
      obtain ⟨_, _, q3⟩ := blk hval.1 (hHome sz els ⟨rfl, rfl⟩ rfl hval.1)
      obtain ⟨_, hl1, e⟩ := hval
      have := q3 0 0 (by omega)
      rw [Nat.zero_mul, Nat.zero_add] at this
      rw [e]; exact this.toSR
    all_goals first
      | (simp [AV.lone] at hl; done)
      | exact (VR.mono (S' := SetOf F g s.ob) (Same.refl S' w') (fun b _ c => hSS b c) hval).toSR

end

end Go.Proofs.YtbobhejdijcofaaGreatDoor
