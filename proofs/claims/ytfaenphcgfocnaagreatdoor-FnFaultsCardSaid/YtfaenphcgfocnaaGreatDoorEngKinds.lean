/- impl.kindsOf at this translation, walked by hand: a closure appends to a slice that it captures. No condition. -/
import Derived.Test.YtfaenphcgfocnaaGreatDoorFAC
import Derived.Test.YtfaenphcgfocnaaGreatDoorEngCall
import Derived.Deep.QuietTactic
import Derived.BigQuiet
import Derived.StillTailTactics
import Derived.Laws.AppendOwn
import Derived.Lib.OthersKept
import Derived.Lib.Builder
import Derived.WalkKit
import Derived.Shelf.Abstract
import Derived.Lib.Hide
namespace Go.Proofs.YtfaenphcgfocnaaGreatDoor.kinds
open Go Go.RowKit Go.Proofs.YtfaenphcgfocnaaGreatDoor
set_option linter.unusedVariables false
set_option linter.unusedSimpArgs false
set_option maxRecDepth 100000
theorem gE {P:Program} {ops:Array Oper} {w:World} {Q:Act → Prop} {a:Act} {o:Oper} {rest:List Oper} (h0:Region.wanted o (yielded ops a.tmps) = false)
    (h:wpStill P ops w Q rest (a.put o.dst undef)):wpStill P ops w Q (o :: rest) a:=by
  rw [wpStill,if_neg (by rw [h0]; exact Bool.false_ne_true)]; exact h
attribute [local irreducible] wpStill
structure KS (N kb:Nat) (zs:List Int) (w:World):Prop where
  low:N ≤ kb
  ex:∃ v,w.heap[kb]? = some (.cells #[v] 59 (0,0)) ∧ w.ownsRow N 2 1 v zs.length (zs.map (Value.int .i64))
theorem KS.lt {N kb:Nat} {zs:List Int} {w:World} (h:KS N kb zs w):kb < w.heap.size:=by
  obtain ⟨v,hb,_⟩:=h.ex
  rcases Nat.lt_or_ge kb w.heap.size with h' | h'
  · exact h'
  · rw [Array.getElem?_eq_none h'] at hb; cases hb
theorem KS.same {N kb:Nat} {zs:List Int} {w w':World} (h:KS N kb zs w) (hs:At (fun _ => False) w w'):KS N kb zs w':=by
  have lt:∀ {b:Nat} {o:Obj},w.heap[b]? = some o → w'.heap[b]? = some o:=fun {b o} hb => by
    have:b < w.heap.size:=by
      rcases Nat.lt_or_ge b w.heap.size with h' | h'
      · exact h'
      · rw [Array.getElem?_eq_none h'] at hb; cases hb
    rw [hs.block b this (fun c => c),hb]
  obtain ⟨v,h1,h3⟩:=h.ex
  refine ⟨h.low,v,lt h1,h3.1,?_⟩
  rcases h3.2 with h5 | ⟨g,cap,cur,h5,h6,h7,h8⟩
  · exact .inl h5
  · exact .inr ⟨g,cap,cur,h5,h6,lt h7,h8⟩
theorem KS.below {N kb:Nat} {zs:List Int} {w w':World} (h:KS N kb zs w) (hs:Below w.heap.size w w'):KS N kb zs w':=h.same (Mj hs)
theorem KS.drew {N kb:Nat} {zs:List Int} {w:World} (h:KS N kb zs w):KS N kb zs w.drew:=h.same (At.drew _ _)
def dF (N kb:Nat) (zs:List Int) (w:World) (e:Ending) (w':World):Prop:=e = .returned (.tuple #[]) ∧ KS N kb zs w' ∧ Below N w w' ∧ Lib.OthersKept 2 (some kb) w w'
theorem th:(Tryz.prog.info? 2).map (fun i => (i.zero,i.size,i.bytes)) = some (some (.int .i64 0),1,8):=by kernel_rfl
theorem pX:Tryz.prog.underlying 59 = some (.slice 2):=by kernel_rfl
theorem ADF {N kb:Nat} {zs:List Int} {w:World} (k:Int) (h:KS N kb zs w) (hN:N ≤ w.heap.size) :
    Calls Tryz.prog 80 #[.int .i64 k,.bool false,.pointer (some ⟨kb,0,none⟩)] w (dF N kb zs w):=by
  have H:=Lib.hid h
  clear h
  go_enter Tryz.func80,Tryz.ntmps80
  go_wp2
  go_end0
  exact ⟨rfl,H.out,Below.refl _ _,Lib.OthersKept.refl _ _ _⟩
set_option maxHeartbeats 2000000 in
theorem yR {N kb:Nat} {zs:List Int} {w:World} (k:Int) (h:KS N kb zs w) (hN:N ≤ w.heap.size) (hlen:zs.length ≤ 1000) :
    Calls Tryz.prog 80 #[.int .i64 k,.bool true,.pointer (some ⟨kb,0,none⟩)] w (dF N kb (zs ++ [k]) w):=by
  obtain ⟨hlow,v,hbk,hown⟩:=h
  obtain ⟨i0,hi,hz0,hz1,hz2⟩:=info_parts th
  have hne:=Lib.ownBlock_ne hown hbk (by decide)
  have c0:w.cell? ⟨kb,0,none⟩ = some v:=by rw [Lib.cell_of_heap hbk]; rfl
  have hlt:kb < w.heap.size:=World.block_lt_of_cell? w _ c0
  have H1:=Lib.hid hbk
  have H3:=Lib.hid hne
  clear hbk hne
  go_enter Tryz.func80,Tryz.ntmps80
  go_wp2_with (at_builtin; refine wpList_append_own _ rfl _ _ 59 rfl N 2 i0 (.int .i64 0) 1 8 pX hi hz0 hz1 hz2 rfl (by decide) _ _ _ rfl (hown.alloc _) ⟨w.heap.size,0,none⟩ 1 1 [.int .i64 k] rfl rfl ?c1 ?c2 ?c3 ?c4 ?c5 ?_)
  case c1 =>
    intro j u hj
    match j,hj with
    | 0,hj => simp at hj; subst hj; simp [Addr.add]
  case c2 => intro u hu; simp at hu; subst hu; rfl
  case c3 => unfold maxLen; omega
  case c4 => omega
  case c5 => simp; omega
  intro v' w2 hown' hgrow _
  have hb2:w2.heap[kb]? = some (.cells #[v] 59 (0,0)):=by
    rw [hgrow.block kb (by simp; omega) (fun e => H3.out e.symm),Lib.alloc_old w _ kb hlt]
    exact H1.out
  have f1:w2.frozen? ⟨kb,0,none⟩ = false:=Lib.frozen_of_heap hb2 0
  have d1:w2.cell? ⟨kb,0,none⟩ = some v:=by rw [Lib.cell_of_heap hb2]; rfl
  obtain ⟨g,cap,rfl⟩:∃ g cap,v' = .slice (some ⟨g,0,none⟩) (zs.length + 1) cap:=by
    rcases hown'.2 with ⟨_,h0⟩ | ⟨g,cap,cur,hv,_⟩
    · omega
    · exact ⟨g,cap,hv⟩
  have H2:=Lib.hid hb2
  have HG:=Lib.hid hgrow
  have HO:=Lib.hid hown'
  clear hb2 hgrow hown'
  have hk:∀ q,v.ownBlock = some q → N ≤ q ∧ ∃ c fz,(w.alloc (.cells #[.int .i64 k] 2)).heap[q]? = some (.cells c 2 fz):=by
    intro q hq
    have ho:=hown.alloc (.cells #[.int .i64 k] 2)
    rcases ho.2 with ⟨rfl,_⟩ | ⟨g',cap',cur,rfl,hb',hgg,_⟩
    · simp [Value.ownBlock] at hq
    · simp [Value.ownBlock] at hq
      subst hq
      exact ⟨hb',cur,_,hgg⟩
  have HK:=Lib.hid hk
  clear hk
  go_wp2
  go_end0
  have hb2:=H2.out
  have hgrow:=HG.out
  have hown':=HO.out
  have hng:=Lib.ownBlock_ne hown' hb2 (by decide)
  refine ⟨rfl,⟨hlow,.slice (some ⟨g,0,none⟩) (zs.length + 1) cap,?_,?_⟩,?_,?_⟩
  · simp [World.setCell,Array.getElem?_modify,hb2]
  · have:=hown'.kept (w':=w2.setCell ⟨kb,0,none⟩ (.slice (some ⟨g,0,none⟩) (zs.length + 1) cap)) (row:=some kb) ⟨rfl,rfl,rfl,by simp [World.setCell],fun q _ hq => Below.heap_setCell _ _ _ _ (fun e => hq (by simp [e]))⟩ (Or.inr hng)
    simpa using this
  · exact (((Below.refl N w).alloc hN _).grown hgrow (by simp; omega) (fun q hq => (HK.out q hq).1)).setCell (p:=⟨kb,0,none⟩) hlow _
  · exact (((Lib.OthersKept.refl _ _ w).alloc _).grown hgrow (fun q hq => (HK.out q hq).2)).setCell ⟨kb,0,none⟩ rfl _
theorem JZ {N kb:Nat} {zs:List Int} {w:World} (k:Int) (b:Bool) (h:KS N kb zs w) (hN:N ≤ w.heap.size) (hlen:zs.length ≤ 1000) :
    Calls Tryz.prog 80 #[.int .i64 k,.bool b,.pointer (some ⟨kb,0,none⟩)] w (dF N kb (zs ++ kd k b) w):=by
  cases b with
  | true => exact yR k h hN hlen
  | false => rw [show zs ++ kd k false = zs by simp [kd]]; exact ADF k h hN
def estV (e:AA):Value:=.agg #[.int .i64 e.Time,.string ⟨e.Star.toArray⟩,.string ⟨e.Observer.toArray⟩,.int .i64 e.Mag,.bool e.Fainter]
structure an (W:World) (b off:Nat) (l:List AA):Prop where
  c0:∀ k,k < l.length → W.cell? ⟨b,off + k * 5,none⟩ = some (.int .i64 (l.getD k default).Time)
  c1:∀ k,k < l.length → W.cell? ⟨b,off + k * 5 + 1,none⟩ = some (.string ⟨(l.getD k default).Star.toArray⟩)
  c2:∀ k,k < l.length → W.cell? ⟨b,off + k * 5 + 2,none⟩ = some (.string ⟨(l.getD k default).Observer.toArray⟩)
  c3:∀ k,k < l.length → W.cell? ⟨b,off + k * 5 + 3,none⟩ = some (.int .i64 (l.getD k default).Mag)
  c4:∀ k,k < l.length → W.cell? ⟨b,off + k * 5 + 4,none⟩ = some (.bool (l.getD k default).Fainter)
theorem an.below {n₀:Nat} {A B:World} (h:Below n₀ A B) {b off:Nat} {l:List AA} (hb:b < n₀) (he:an A b off l):an B b off l :=
  ⟨fun k hk => (h.cell (p:=⟨b,_,none⟩) hb).trans (he.c0 k hk),fun k hk => (h.cell (p:=⟨b,_,none⟩) hb).trans (he.c1 k hk),fun k hk => (h.cell (p:=⟨b,_,none⟩) hb).trans (he.c2 k hk),
   fun k hk => (h.cell (p:=⟨b,_,none⟩) hb).trans (he.c3 k hk),fun k hk => (h.cell (p:=⟨b,_,none⟩) hb).trans (he.c4 k hk)⟩
theorem yG {S:Nat → Prop} {w:World} {v:Value} {l:List AA} (h:VR S w v (.sl 5 (List.map AE l))) :
    ∃ a cap,v = .slice a l.length cap ∧ l.length ≤ cap ∧ (0 < l.length → ∃ b off,a = some ⟨b,off,none⟩ ∧ b < w.heap.size ∧ an w b off l):=by
  cases h with
  | @sl a n cap sz els b off rd hn hcap hsz ha hc hw hr =>
    have hl:(List.map AE l).length = l.length:=by simp
    refine ⟨a,cap,by rw [hn,hl],by omega,fun hp => ?_⟩
    obtain ⟨e,_⟩:=ha (by rw [hl]; exact hp)
    have hb:=World.block_lt_of_cell? w ⟨b,off + (0 * 5 + 0),none⟩ (hw 0 0 (by rw [hl]; exact hp) (by omega))
    have hget:∀ k,k < l.length → (List.map AE l).getD k .any = AE (l.getD k default):=fun k hk => by
      simp [List.getD_eq_getElem?_getD,hk]
    have one:∀ k j,k < l.length → j < 5 → w.cell? ⟨b,off + (k * 5 + j),none⟩ = some (rd k j) ∧ VR S w (rd k j) ((AE (l.getD k default)).cells.getD j .any):=fun k j hk hj => by
      refine ⟨hw k j (by rw [hl]; exact hk) hj,?_⟩
      have:=hr k j (by rw [hl]; exact hk) hj
      rwa [hget k hk] at this
    have i:∀ {u:Value} {k:IntKind} {z:Int},VR S w u (.int k z) → u = .int k z:=fun h => by cases h; rfl
    have s:∀ {u:Value} {z:List UInt8},VR S w u (.str z) → u = .string ⟨z.toArray⟩:=fun h => by cases h; rfl
    have bo:∀ {u:Value} {z:Bool},VR S w u (.bool z) → u = .bool z:=fun h => by cases h; rfl
    refine ⟨b,off,e,hb,⟨fun k hk => ?_,fun k hk => ?_,fun k hk => ?_,fun k hk => ?_,fun k hk => ?_⟩⟩
    · obtain ⟨q,r⟩:=one k 0 hk (by omega); rw [← i r]; exact q
    · obtain ⟨q,r⟩:=one k 1 hk (by omega); rw [← s r]; exact q
    · obtain ⟨q,r⟩:=one k 2 hk (by omega); rw [← s r]; exact q
    · obtain ⟨q,r⟩:=one k 3 hk (by omega); rw [← i r]; exact q
    · obtain ⟨q,r⟩:=one k 4 hk (by omega); rw [← bo r]; exact q
def AGi (e:AA):Array Value:=#[.int .i64 e.Time,.string ⟨e.Star.toArray⟩,.string ⟨e.Observer.toArray⟩,.int .i64 e.Mag,.bool e.Fainter]
def Yb (zs:List Int) (N:Nat) (w:World) (e:Ending) (w':World):Prop:=∃ v,e = .returned v ∧ w'.ownsRow N 2 1 v zs.length (zs.map (Value.int .i64)) ∧ Below N w w'
structure KI (N:Nat) (w:World) (X:AA) (zs:List Int) (W:World):Prop where
  bel:Below N w W
  est:W.heap[N + 1]? = some (.cells (AGi X) 68 (0,0))
  ks:KS N (N + 1 + 1) zs W
theorem KI.below {N:Nat} {w W W':World} {X:AA} {zs:List Int} (h:KI N w X zs W) (hb:Below W.heap.size W W') (hN:N ≤ W.heap.size):KI N w X zs W':=by
  have hlt:N + 1 < W.heap.size:=(Array.getElem?_eq_some_iff.1 h.est).1
  exact ⟨h.bel.trans (hb.mono hN),(hb.block _ hlt).trans h.est,h.ks.below hb⟩
theorem KI.size {N:Nat} {w W:World} {X:AA} {zs:List Int} (h:KI N w X zs W):N ≤ W.heap.size:=by
  have:=(Array.getElem?_eq_some_iff.1 h.est).1; omega
theorem KI.drew {N:Nat} {w W:World} {X:AA} {zs:List Int} (h:KI N w X zs W):KI N w X zs W.drew:=⟨h.bel.drew,h.est,h.ks.drew⟩
theorem KI.add {N:Nat} {w W W':World} {X:AA} {zs zs':List Int} {e:Ending} (h:KI N w X zs W) (ha:dF N (N + 1 + 1) zs' W e W'):KI N w X zs' W':=by
  obtain ⟨_,h1,h2,h3⟩:=ha
  exact ⟨h.bel.trans h2,h3 _ _ h.est (by simp) (fun c fz hc => by cases hc),h1⟩
theorem KI.cells {N:Nat} {w W:World} {X:AA} {zs:List Int} (h:KI N w X zs W):W.cell? ⟨N + 1,0,none⟩ = some (.int .i64 X.Time) ∧ W.cell? ⟨N + 1,1,none⟩ = some (.string ⟨X.Star.toArray⟩) ∧ W.cell? ⟨N + 1,2,none⟩ = some (.string ⟨X.Observer.toArray⟩) ∧ W.cell? ⟨N + 1,3,none⟩ = some (.int .i64 X.Mag) ∧ W.cell? ⟨N + 1,4,none⟩ = some (.bool X.Fainter):=by
  have he:=h.est
  refine ⟨?_,?_,?_,?_,?_⟩ <;> (unfold World.cell?; rw [he]; rfl)
theorem KI.start (w:World) (X:AA):KI w.heap.size w X [] (((w.alloc (.cells #[] 2)).alloc (.cells #[.int .i64 X.Time,.string ⟨X.Star.toArray⟩,.string ⟨X.Observer.toArray⟩,.int .i64 X.Mag,.bool X.Fainter] 68)).alloc (.cells #[.slice (some ⟨w.heap.size,0,none⟩) 0 0] 59)):=by
  have s1:(w.alloc (.cells #[] 2)).heap.size = w.heap.size + 1:=by simp
  have h2:=fun o => heap_alloc_new (w.alloc (.cells #[] 2)) o
  have s2:∀ o,((w.alloc (.cells #[] 2)).alloc o).heap.size = w.heap.size + 1 + 1:=fun o => by simp
  have h3:=fun o o' => heap_alloc_new ((w.alloc (.cells #[] 2)).alloc o) o'
  simp only [s1] at h2
  simp only [s2] at h3
  refine ⟨(((Below.refl _ w).alloc (Nat.le_refl _) _).alloc (by simp) _).alloc (by simp; omega) _,?_,by omega,_,h3 _ _,rfl,.inr ⟨w.heap.size,0,#[],rfl,Nat.le_refl _,?_,Nat.le_refl _,Nat.zero_le _,rfl,rfl⟩⟩
  · exact (Below.heap_alloc _ _ _ (by simp)).trans (h2 _)
  · exact (Below.heap_alloc _ _ _ (by simp; omega)).trans ((Below.heap_alloc _ _ _ (by simp)).trans (heap_alloc_new w _))
theorem Fj (k:Int) (b:Bool):(kd k b).length ≤ 1:=by cases b <;> simp [kd]
set_option maxHeartbeats 4000000 in
theorem gy (lb loff lcap len:Nat) (l:List AA) (hlen:len = l.length) (i:Nat) (hi:i < len) (hcap:len ≤ lcap) (sv ov:Value) (margin:Int) (w:World) (hlb:lb < w.heap.size) (he:an w lb loff l) (y1 y2 z1 z2:Int) (t:Bool) (hy2:¬ y2 = 0)
    (hIX:∀ W,KI w.heap.size w (l.getD i default) [] W → Calls Tryz.prog 81 #[sv,.func (.func 82) #[] #[.pointer (some ⟨w.heap.size + 1,0,none⟩)]] W fun e W' => e = .returned (.tuple #[.int .i64 y1,.int .i64 y2]) ∧ Below W.heap.size W W')
    (hFO:∀ W,KI w.heap.size w (l.getD i default) [] W → Calls Tryz.prog 83 #[ov,.string ⟨(l.getD i default).Observer.toArray⟩] W fun e W' => e = .returned (.tuple #[.int .i64 z1,.int .i64 z2]) ∧ Below W.heap.size W W')
    (hCF:∀ W zs,KI w.heap.size w (l.getD i default) zs W → Calls Tryz.prog 84 #[.slice (some ⟨lb,loff,none⟩) i lcap,.func (.func 85) #[] #[.pointer (some ⟨w.heap.size + 1,0,none⟩)]] W fun e W' => e = .returned (.bool t) ∧ Below W.heap.size W W') :
    Calls Tryz.prog 36 #[.slice (some ⟨lb,loff,none⟩) len lcap,.int .i64 (i:Int),sv,ov,.int .i64 margin] w (Yb ([] ++ kd 1 true ++ kd 2 (!(z2 == 0)) ++ kd 5 t) w.heap.size w):=by
  have HL:=Lib.hid hlen
  have q0:=he.c0 i (by omega)
  have q1:=he.c1 i (by omega)
  have q2:=he.c2 i (by omega)
  have q3:=he.c3 i (by omega)
  have q4:=he.c4 i (by omega)
  obtain ⟨X,hX⟩:∃ X,X = l.getD i default:=⟨_,rfl⟩
  rw [← hX] at q0 q1 q2 q3 q4 hIX hFO hCF
  have HX:=Lib.hid hX
  have HE:=Lib.hid he
  have HIX:=Lib.hid hIX
  have HFO:=Lib.hid hFO
  have HCF:=Lib.hid hCF
  have hst:=KI.start w X
  clear hlen hX he hIX hFO hCF
  go_enter Tryz.func36,Tryz.ntmps36
  go_wp2_with fail
  refine (HIX.out _ hst).mono ?_
  rintro e W2 ⟨rfl,hb2⟩
  have h2:=hst.below hb2 hst.size
  have c2:=h2.cells.2.2.1
  have H2:=Lib.hid h2
  clear hst hb2 h2
  go_wp2_with fail
  refine (HFO.out _ H2.out).mono ?_
  rintro e W3 ⟨rfl,hb3⟩
  have h3:=H2.out.below hb3 H2.out.size
  have H3:=Lib.hid h3
  clear hb3 h3 c2
  go_wp2_with fail
  refine (JZ 1 (y2 != 0) H3.out.ks H3.out.size (by simp)).mono ?_
  rintro e W4 ha4
  have h4:=H3.out.add ha4
  obtain rfl:=ha4.1
  have H4:=Lib.hid h4
  clear ha4 h4
  go_wp2_with fail
  refine (JZ 2 (z2 != 0) H4.out.ks H4.out.size (by have:=Fj 1 (y2 != 0); simp; omega)).mono ?_
  rintro e W5 ha5
  have h5:=H4.out.add ha5
  obtain rfl:=ha5.1
  have H5:=Lib.hid h5
  clear ha5 h5
  go_wp2_with fail
  refine (HCF.out _ _ H5.out).mono ?_
  rintro e W6 ⟨rfl,hb6⟩
  have h6:=H5.out.below hb6 H5.out.size
  have H6:=Lib.hid h6
  clear hb6 h6
  go_wp2_with fail
  refine (JZ 5 t H6.out.ks H6.out.size (by have:=Fj 1 (y2 != 0); have:=Fj 2 (z2 != 0); simp; omega)).mono ?_
  rintro e W7 ha7
  have h7:=H6.out.add ha7
  obtain rfl:=ha7.1
  obtain ⟨v,hv1,hv2⟩:=h7.ks.ex
  have c7:W7.cell? ⟨w.heap.size + 1 + 1,0,none⟩ = some v:=by unfold World.cell?; rw [hv1]; rfl
  have H7:=Lib.hid h7
  have HV:=Lib.hid hv2
  clear ha7 h7 hv1 hv2
  go_wp2_with fail
  go_ret
  refine ⟨v,rfl,?_,H7.out.bel⟩
  have e1:(y2 != 0) = true:=by simpa using hy2
  have e2:(z2 != 0) = (!(z2 == 0)):=rfl
  have hv:=HV.out
  rw [e1,e2] at hv
  exact hv
set_option maxHeartbeats 16000000 in
theorem gx (w:World) (lb loff lcap len:Nat) (l:List AA) (hlen:len = l.length) (i:Nat) (hi:i < len) (hcap:len ≤ lcap) (sb soff slen scap k:Nat) (hk:k < slen) (hsb:sb < w.heap.size) (B Fa:Int) (hB:w.cell? ⟨sb,soff + k * 5 + 3,none⟩ = some (.int .i64 B)) (hFa:w.cell? ⟨sb,soff + k * 5 + 4,none⟩ = some (.int .i64 Fa)) (ov:Value) (margin:Int) (hlb:lb < w.heap.size) (he:an w lb loff l) (z1 z2:Int) (t:Bool)
    (hIX:∀ W,KI w.heap.size w (l.getD i default) [] W → Calls Tryz.prog 81 #[.slice (some ⟨sb,soff,none⟩) slen scap,.func (.func 82) #[] #[.pointer (some ⟨w.heap.size + 1,0,none⟩)]] W fun e W' => e = .returned (.tuple #[.int .i64 (k:Int),.int .i64 0]) ∧ Below W.heap.size W W')
    (hFO:∀ W,KI w.heap.size w (l.getD i default) [] W → Calls Tryz.prog 83 #[ov,.string ⟨(l.getD i default).Observer.toArray⟩] W fun e W' => e = .returned (.tuple #[.int .i64 z1,.int .i64 z2]) ∧ Below W.heap.size W W')
    (hCF:∀ W zs,KI w.heap.size w (l.getD i default) zs W → Calls Tryz.prog 84 #[.slice (some ⟨lb,loff,none⟩) i lcap,.func (.func 85) #[] #[.pointer (some ⟨w.heap.size + 1,0,none⟩)]] W fun e W' => e = .returned (.bool t) ∧ Below W.heap.size W W') :
    Calls Tryz.prog 36 #[.slice (some ⟨lb,loff,none⟩) len lcap,.int .i64 (i:Int),.slice (some ⟨sb,soff,none⟩) slen scap,ov,.int .i64 margin] w (Yb ([] ++ kd 1 false ++ kd 2 (!(z2 == 0)) ++ kd 3 (decide ((l.getD i default).Mag < IntKind.i64.wrap (B - margin))) ++ kd 4 (!(l.getD i default).Fainter && decide (IntKind.i64.wrap (Fa + margin) < (l.getD i default).Mag)) ++ kd 5 t) w.heap.size w):=by
  have HL:=Lib.hid hlen
  have q0:=he.c0 i (by omega)
  have q1:=he.c1 i (by omega)
  have q2:=he.c2 i (by omega)
  have q3:=he.c3 i (by omega)
  have q4:=he.c4 i (by omega)
  obtain ⟨X,hX⟩:∃ X,X = l.getD i default:=⟨_,rfl⟩
  rw [← hX] at q0 q1 q2 q3 q4 hIX hFO hCF ⊢
  have HX:=Lib.hid hX
  have HE:=Lib.hid he
  have HIX:=Lib.hid hIX
  have HFO:=Lib.hid hFO
  have HCF:=Lib.hid hCF
  have hst:=KI.start w X
  clear hlen hX he hIX hFO hCF
  go_enter Tryz.func36,Tryz.ntmps36
  go_wp2_with fail
  refine (HIX.out _ hst).mono ?_
  rintro e W2 ⟨rfl,hb2⟩
  have h2:=hst.below hb2 hst.size
  have c2:=h2.cells.2.2.1
  have H2:=Lib.hid h2
  clear hst hb2 h2
  go_wp2_with fail
  refine (HFO.out _ H2.out).mono ?_
  rintro e W3 ⟨rfl,hb3⟩
  have h3:=H2.out.below hb3 H2.out.size
  have H3:=Lib.hid h3
  clear hb3 h3 c2
  go_wp2_with fail
  refine (JZ 1 false H3.out.ks H3.out.size (by simp)).mono ?_
  rintro e W4 ha4
  have h4:=H3.out.add ha4
  obtain rfl:=ha4.1
  have H4:=Lib.hid h4
  clear ha4 h4
  go_wp2_with fail
  refine (JZ 2 (z2 != 0) H4.out.ks H4.out.size (by have:=Fj 1 false; simp; omega)).mono ?_
  rintro e W5 ha5
  have h5:=H4.out.add ha5
  obtain rfl:=ha5.1
  have H5:=Lib.hid h5
  clear ha5 h5
  have c3:=H5.out.cells.2.2.2.1
  have b3:=(H5.out.bel.cell (p:=⟨sb,soff + k * 5 + 3,none⟩) hsb).trans hB
  go_wp2_with fail
  go_still_tail 11,(by kernel_rfl)
  have h5:=H5.out.drew
  change wpList _ _ _ _ _ W5.drew
  obtain ⟨W5',hW⟩:∃ x,x = W5.drew:=⟨_,rfl⟩
  rw [← hW] at h5 ⊢
  have HW:=Lib.hid hW
  have H5':=Lib.hid h5
  clear hW h5 c3 b3
  go_wp2_with fail
  refine (JZ 3 _ H5'.out.ks H5'.out.size (by have:=Fj 1 false; have:=Fj 2 (z2 != 0); simp; omega)).mono ?_
  rintro e W6 ha6
  have h6:=H5'.out.add ha6
  obtain rfl:=ha6.1
  have c3:=h6.cells.2.2.2.1
  have c4:=h6.cells.2.2.2.2
  have b4:=(h6.bel.cell (p:=⟨sb,soff + k * 5 + 4,none⟩) hsb).trans hFa
  obtain ⟨F,hF⟩:∃ F,F = X.Fainter:=⟨_,rfl⟩
  rw [← hF] at c4
  have HF:=Lib.hid hF
  have H6:=Lib.hid h6
  clear ha6 h6 hF
  skip
  cases F with
  | true =>
    go_wp2_with fail
    refine wp_region_still_tail 16 (by kernel_rfl) (by kernel_rfl) ?_
    simp only [List.take_succ_cons,List.take_zero,List.drop_succ_cons,List.drop_zero]
    iterate 5 still_step
    iterate 10 (refine gE (by kernel_rfl) ?_)
    still_step
    refine wpStill_nil ?_
    have h6:=H6.out.drew
    change wpList _ _ _ _ _ W6.drew
    obtain ⟨W6',hW⟩:∃ x,x = W6.drew:=⟨_,rfl⟩
    rw [← hW] at h6 ⊢
    have HW6:=Lib.hid hW
    have H6':=Lib.hid h6
    clear hW h6 c3 c4 b4
    go_wp2_with fail
    refine (JZ 4 false H6'.out.ks H6'.out.size (by have:=Fj 1 false; have:=Fj 2 (z2 != 0); have:=Fj 3 (decide (X.Mag < wrap64 (B - margin))); simp; omega)).mono ?_
    rintro e W7 ha7
    have h7:=H6'.out.add ha7
    obtain rfl:=ha7.1
    have H7:=Lib.hid h7
    clear ha7 h7
    go_wp2_with fail
    refine (HCF.out _ _ H7.out).mono ?_
    rintro e W8 ⟨rfl,hb8⟩
    have h8:=H7.out.below hb8 H7.out.size
    have H8:=Lib.hid h8
    clear hb8 h8
    go_wp2_with fail
    refine (JZ 5 t H8.out.ks H8.out.size (by have:=Fj 1 false; have:=Fj 2 (z2 != 0); have:=Fj 3 (decide (X.Mag < wrap64 (B - margin))); have:=Fj 4 false; simp; omega)).mono ?_
    rintro e W9 ha9
    have h9:=H8.out.add ha9
    obtain rfl:=ha9.1
    obtain ⟨v,hv1,hv2⟩:=h9.ks.ex
    have c9:W9.cell? ⟨w.heap.size + 1 + 1,0,none⟩ = some v:=by unfold World.cell?; rw [hv1]; rfl
    have H9:=Lib.hid h9
    have HV:=Lib.hid hv2
    clear ha9 h9 hv1 hv2
    go_wp2_with fail
    go_ret
    have hv:=HV.out
    have e2:(z2 != 0) = (!(z2 == 0)):=rfl
    have e3:wrap64 (B - margin) = IntKind.i64.wrap (B - margin):=by rw [IntKind.wrap_i64]; unfold wrap64; rfl
    have e4:wrap64 (Fa + margin) = IntKind.i64.wrap (Fa + margin):=by rw [IntKind.wrap_i64]; unfold wrap64; rfl
    refine ⟨v,rfl,?_,H9.out.bel⟩
    rw [← HF.out]
    simp only [e2,e3,e4] at hv
    simpa using hv
  | false =>
    go_wp2_with fail
    refine wp_region_still_tail 16 (by kernel_rfl) (by kernel_rfl) ?_
    simp only [List.take_succ_cons,List.take_zero,List.drop_succ_cons,List.drop_zero]
    iterate 16 still_step
    refine wpStill_nil ?_
    have h6:=H6.out.drew
    change wpList _ _ _ _ _ W6.drew
    obtain ⟨W6',hW⟩:∃ x,x = W6.drew:=⟨_,rfl⟩
    rw [← hW] at h6 ⊢
    have HW6:=Lib.hid hW
    have H6':=Lib.hid h6
    clear hW h6 c3 c4 b4
    go_wp2_with fail
    refine (JZ 4 (decide (wrap64 (Fa + margin) < X.Mag)) H6'.out.ks H6'.out.size (by have:=Fj 1 false; have:=Fj 2 (z2 != 0); have:=Fj 3 (decide (X.Mag < wrap64 (B - margin))); simp; omega)).mono ?_
    rintro e W7 ha7
    have h7:=H6'.out.add ha7
    obtain rfl:=ha7.1
    have H7:=Lib.hid h7
    clear ha7 h7
    go_wp2_with fail
    refine (HCF.out _ _ H7.out).mono ?_
    rintro e W8 ⟨rfl,hb8⟩
    have h8:=H7.out.below hb8 H7.out.size
    have H8:=Lib.hid h8
    clear hb8 h8
    go_wp2_with fail
    refine (JZ 5 t H8.out.ks H8.out.size (by have:=Fj 1 false; have:=Fj 2 (z2 != 0); have:=Fj 3 (decide (X.Mag < wrap64 (B - margin))); have:=Fj 4 (decide (wrap64 (Fa + margin) < X.Mag)); simp; omega)).mono ?_
    rintro e W9 ha9
    have h9:=H8.out.add ha9
    obtain rfl:=ha9.1
    obtain ⟨v,hv1,hv2⟩:=h9.ks.ex
    have c9:W9.cell? ⟨w.heap.size + 1 + 1,0,none⟩ = some v:=by unfold World.cell?; rw [hv1]; rfl
    have H9:=Lib.hid h9
    have HV:=Lib.hid hv2
    clear ha9 h9 hv1 hv2
    go_wp2_with fail
    go_ret
    have hv:=HV.out
    have e2:(z2 != 0) = (!(z2 == 0)):=rfl
    have e3:wrap64 (B - margin) = IntKind.i64.wrap (B - margin):=by rw [IntKind.wrap_i64]; unfold wrap64; rfl
    have e4:wrap64 (Fa + margin) = IntKind.i64.wrap (Fa + margin):=by rw [IntKind.wrap_i64]; unfold wrap64; rfl
    refine ⟨v,rfl,?_,H9.out.bel⟩
    rw [← HF.out]
    simp only [e2,e3,e4] at hv
    simpa using hv
theorem AAD {S:Nat → Prop} {w:World} {a:Option Addr} {n cap sz k:Nat} {els:List AV} (h:VR S w (.slice a n cap) (.sl sz els)) (hk:k ≤ n):VR S w (.slice a k cap) (.sl sz (els.take k)):=by
  cases h with
  | sl b off rd hn hcap hsz ha hc hw hr =>
    have hg:∀ i,i < (els.take k).length → i < els.length ∧ (els.take k).getD i .any = els.getD i .any:=fun i hi => by
      have h0:i < min k els.length:=by simpa using hi
      have h1:i < k ∧ i < els.length:=by omega
      refine ⟨h1.2,?_⟩
      simp [List.getD_eq_getElem?_getD,List.getElem?_take_of_lt h1.1]
    refine .sl b off rd (by simp; omega) (by omega) hsz (fun hp => ha (by have:=(hg 0 hp).1; omega)) (fun i hi => ?_) (fun i j hi hj => hw i j (hg i hi).1 hj) (fun i j hi hj => ?_)
    · rw [(hg i hi).2]; exact hc i (hg i hi).1
    · rw [(hg i hi).2]; exact hr i j (hg i hi).1 hj
theorem KI.cell {N:Nat} {w W:World} {X:AA} {zs:List Int} (h:KI N w X zs W) (f:FuncId):VR (fun _ => False) W (.func (.func f) #[] #[.pointer (some ⟨N + 1,0,none⟩)]) (.fn (.func f) [] [.ptr 5 [AE X] 0 0]):=by
  obtain ⟨c0,c1,c2,c3,c4⟩:=h.cells
  refine .fn rfl rfl (fun j hj => absurd hj (by simp)) (fun j hj => ?_)
  have hj':j = 0:=by simp at hj; omega
  subst hj'
  have one:∀ i,i < [AE X].length → i = 0:=fun i hi => by simp at hi; omega
  have:=VR.ptr (S:=fun _ => False) (w:=W) (sz:=5) (els:=[AE X]) (i0:=0) (o0:=0) (N + 1) 0 (fun _ j => (AGi X).getD j undef) (by omega) (by simp) (fun c => c) (fun i hi => ?_) (fun i j hi hj => ?_) (fun i j hi hj => ?_)
  · exact this
  · rw [one i hi]; exact ⟨rfl,rfl⟩
  · rw [one i hi]
    match j,hj with
    | 0,_ => exact c0
    | 1,_ => exact c1
    | 2,_ => exact c2
    | 3,_ => exact c3
    | 4,_ => exact c4
  · rw [one i hi]
    match j,hj with
    | 0,_ => exact .int
    | 1,_ => exact .str
    | 2,_ => exact .str
    | 3,_ => exact .int
    | 4,_ => exact .bool
theorem gG {w:World} {v:Value} {s:List Star} (h:VR (fun _ => False) w v (.sl 5 (List.map Al s))):∃ a cap,v = .slice a s.length cap ∧ (0 < s.length → ∃ b off,a = some ⟨b,off,none⟩ ∧ b < w.heap.size ∧
    ∀ k,k < s.length → w.cell? ⟨b,off + k * 5 + 3,none⟩ = some (.int .i64 (s.getD k default).Bright) ∧ w.cell? ⟨b,off + k * 5 + 4,none⟩ = some (.int .i64 (s.getD k default).Faint)):=by
  cases h with
  | @sl a n cap sz els b off rd hn hcap hsz ha hc hw hr =>
    have hl:(List.map Al s).length = s.length:=by simp
    refine ⟨a,cap,by rw [hn,hl],fun hp => ?_⟩
    obtain ⟨e,_⟩:=ha (by rw [hl]; exact hp)
    have hb:=World.block_lt_of_cell? w ⟨b,off + (0 * 5 + 0),none⟩ (hw 0 0 (by rw [hl]; exact hp) (by omega))
    have hget:∀ k,k < s.length → (List.map Al s).getD k .any = Al (s.getD k default):=fun k hk => by
      simp [List.getD_eq_getElem?_getD,hk]
    have one:∀ k j,k < s.length → j < 5 → w.cell? ⟨b,off + (k * 5 + j),none⟩ = some (rd k j) ∧ VR (fun _ => False) w (rd k j) ((Al (s.getD k default)).cells.getD j .any):=fun k j hk hj => by
      refine ⟨hw k j (by rw [hl]; exact hk) hj,?_⟩
      have:=hr k j (by rw [hl]; exact hk) hj
      rwa [hget k hk] at this
    have i:∀ {u:Value} {k:IntKind} {z:Int},VR (fun _ => False) w u (.int k z) → u = .int k z:=fun h => by cases h; rfl
    refine ⟨b,off,e,hb,fun k hk => ⟨?_,?_⟩⟩
    · obtain ⟨q,r⟩:=one k 3 hk (by omega); rw [← i r]; exact q
    · obtain ⟨q,r⟩:=one k 4 hk (by omega); rw [← i r]; exact q
theorem nJ {S:Nat → Prop} {w:World} {l:List Int} {g cap:Nat} {cur:Array Value} {T:TypeId} (hh:w.heap[g]? = some (.cells cur T (0,0))) (hle:l.length ≤ cap) (hs:cur.size = cap * 1)
    (ht:cur.toList.take (l.length * 1) = l.map (Value.int .i64)):GJ S w g cap 1 (List.map (AV.int .i64) l):=by
  have hget:∀ k,k < l.length → (List.map (AV.int .i64) l).getD k .any = AV.int .i64 (l.getD k 0):=fun k hk => by
    simp [List.getD_eq_getElem?_getD,hk]
  have hc:∀ k,k < l.length → cur.getD k undef = .int .i64 (l.getD k 0):=fun k hk => by
    have h1:(cur.toList.take (l.length * 1))[k]? = (l.map (Value.int .i64))[k]?:=by rw [ht]
    rw [List.getElem?_take_of_lt (by omega),Array.getElem?_toList] at h1
    rw [Array.getD_eq_getD_getElem?,h1]
    simp [List.getD_eq_getElem?_getD,hk]
  refine ⟨by omega,by simpa using hle,fun i hi => ?_,fun _ => ⟨cur,T,(0,0),hh,.inl rfl,hs,fun i j hi hj => ?_⟩⟩
  · rw [hget i (by simpa using hi)]; exact ⟨rfl,rfl⟩
  · have hi':i < l.length:=by simpa using hi
    have hj0:j = 0:=by omega
    subst hj0
    rw [hget i hi',Nat.mul_one,Nat.add_zero,hc i hi']
    exact .int
end Go.Proofs.YtfaenphcgfocnaaGreatDoor.kinds
namespace Go.Proofs.YtfaenphcgfocnaaGreatDoor
open Go Go.RowKit Go.Proofs.YtfaenphcgfocnaaGreatDoor.kinds
set_option linter.unusedVariables false
set_option linter.unusedSimpArgs false
set_option maxRecDepth 100000
theorem dH {S:Nat → Prop} {w:World} {u:Value} {p q:Int} (h:VR S w u (.tup [.int .i64 p,.int .i64 q])):u = .tuple #[.int .i64 p,.int .i64 q]:=by
  cases h with
  | @tup cs bs hn h =>
    have h0:=h 0 (by simp)
    have h1:=h 1 (by simp)
    obtain ⟨l⟩:=cs
    match l,hn with
    | [a,b],_ =>
      have h0:VR S w a (.int .i64 p):=h0
      have h1:VR S w b (.int .i64 q):=h1
      cases h0; cases h1; rfl
noncomputable def cZ:List AV → Option (List AA)
  | [] => some []
  | .agg [.int .i64 t,.str s,.str o,.int .i64 m,.bool f] :: r => (cZ r).map fun l => ⟨t,s,o,m,f⟩ :: l
  | _ => none
theorem et:∀ l:List AA,cZ (List.map AE l) = some l
  | [] => rfl
  | e :: l => by
    show cZ (.agg [.int .i64 e.Time,.str e.Star,.str e.Observer,.int .i64 e.Mag,.bool e.Fainter] :: List.map AE l) = _
    rw [cZ,et l]; rfl
theorem eu:∀ {els:List AV} {l:List AA},cZ els = some l → els = List.map AE l
  | [],l,h => by cases h; rfl
  | a :: r,l,h => by
    unfold cZ at h
    split at h
    · rename_i h0; cases h0
    · rename_i h0
      cases h0
      cases hr:cZ r with
      | none => rw [hr] at h; cases h
      | some l' =>
        rw [hr] at h
        cases h
        rw [eu hr]; rfl
    · cases h
noncomputable def PS:List AV → Option (List Star)
  | [] => some []
  | .agg [.str n,.int .i64 a,.int .i64 d,.int .i64 b,.int .i64 f] :: r => (PS r).map fun l => ⟨n,a,d,b,f⟩ :: l
  | _ => none
theorem ZG:∀ l:List Star,PS (List.map Al l) = some l
  | [] => rfl
  | e :: l => by
    show PS (.agg [.str e.Name,.int .i64 e.Ascend,.int .i64 e.Decl,.int .i64 e.Bright,.int .i64 e.Faint] :: List.map Al l) = _
    rw [PS,ZG l]; rfl
theorem ZH:∀ {els:List AV} {l:List Star},PS els = some l → els = List.map Al l
  | [],l,h => by cases h; rfl
  | a :: r,l,h => by
    unfold PS at h
    split at h
    · rename_i h0; cases h0
    · rename_i h0
      cases h0
      cases hr:PS r with
      | none => rw [hr] at h; cases h
      | some l' =>
        rw [hr] at h
        cases h
        rw [ZH hr]; rfl
    · cases h
noncomputable def bH:List AV → Option (List Observer)
  | [] => some []
  | .agg [.str n,.int .i64 s] :: r => (bH r).map fun l => ⟨n,s⟩ :: l
  | _ => none
theorem dt:∀ l:List Observer,bH (List.map AX l) = some l
  | [] => rfl
  | e :: l => by
    show bH (.agg [.str e.Name,.int .i64 e.Shift] :: List.map AX l) = _
    rw [bH,dt l]; rfl
theorem du:∀ {els:List AV} {l:List Observer},bH els = some l → els = List.map AX l
  | [],l,h => by cases h; rfl
  | a :: r,l,h => by
    unfold bH at h
    split at h
    · rename_i h0; cases h0
    · rename_i h0
      cases h0
      cases hr:bH r with
      | none => rw [hr] at h; cases h
      | some l' =>
        rw [hr] at h
        cases h
        rw [du hr]; rfl
    · cases h
noncomputable def hG:List AV → Rs
  | [.sl 5 es,.int .i64 i,.sl 5 ss,.sl 2 os,.int .i64 m] => match (cZ es).bind fun l => (PS ss).bind fun s => (bH os).bind fun o => EF l i s o m with
    | some y => ⟨true,.fresh 1 (List.map (AV.int .i64) y),[.any,.any,.any,.any,.any]⟩
    | none => Rs.bad
  | _ => Rs.bad
noncomputable def Fp:Ax:=⟨[.bor,.bor,.bor,.bor,.bor],false,hG⟩
theorem MW {list:List AA} {i:Int} {stars:List Star} {observers:List Observer} {margin:Int} {y_:List Int} (h:EF list i stars observers margin = some y_):Fp.F [.sl 5 (List.map AE list),.int .i64 i,.sl 5 (List.map Al stars),.sl 2 (List.map AX observers),.int .i64 margin] = ⟨true,.fresh 1 (List.map (AV.int .i64) y_),[.any,.any,.any,.any,.any]⟩:=by
  show (match (cZ (List.map AE list)).bind fun l => (PS (List.map Al stars)).bind fun s => (bH (List.map AX observers)).bind fun o => EF l i s o margin with
    | some y => (⟨true,.fresh 1 (List.map (AV.int .i64) y),[.any,.any,.any,.any,.any]⟩:Rs)
    | none => Rs.bad) = _
  rw [et,Option.bind_some,ZG,Option.bind_some,dt,Option.bind_some,h]
theorem Ya:Fp.modes = [.bor,.bor,.bor,.bor,.bor]:=rfl
theorem Tj:Fp.flat = false:=rfl
attribute [go_sem] Ya Tj
theorem hD {args:List AV} (h:(hG args).ok = true):∃ list i stars observers margin y,EF list i stars observers margin = some y ∧ args = [.sl 5 (List.map AE list),.int .i64 i,.sl 5 (List.map Al stars),.sl 2 (List.map AX observers),.int .i64 margin]:=by
  unfold hG at h
  split at h
  · rename_i es i ss os m
    split at h
    · rename_i y hy
      obtain ⟨l,h1,hy⟩:=Option.bind_eq_some_iff.1 hy
      obtain ⟨s,h2,hy⟩:=Option.bind_eq_some_iff.1 hy
      obtain ⟨o,h3,hy⟩:=Option.bind_eq_some_iff.1 hy
      exact ⟨l,i,s,o,m,y,hy,by rw [eu h1,ZH h2,du h3]⟩
    · cases h
  · cases h
set_option maxHeartbeats 2000000 in
theorem eI {l:List AA} {i:Int} {s:List Star} {o:List Observer} {m:Int} {y:List Int} (h:EF l i s o m = some y) {v vs vo:Value} {w:World} (hv:VR (fun _ => False) w v (.sl 5 (List.map AE l))) (hs:VR (fun _ => False) w vs (.sl 5 (List.map Al s))) (ho:VR (fun _ => False) w vo (.sl 2 (List.map AX o))) (hg:GT (fun _ => False) w) :
    Calls Tryz.prog 36 #[v,.int .i64 i,vs,vo,.int .i64 m] w (Yb y w.heap.size w):=by
  unfold EF at h
  obtain ⟨hi,h⟩:=AF h
  obtain ⟨y1,hy,h⟩:=AC h
  obtain ⟨z1,hz,h⟩:=AC h
  obtain ⟨hk,h⟩:=AF h
  obtain ⟨hc,h⟩:=AF h
  obtain ⟨t,ht,h⟩:=AC h
  have hi':0 ≤ i ∧ i < (l.length:Int):=by simpa [BA] using hi
  obtain ⟨n,rfl⟩:∃ n:Nat,i = n:=⟨i.toNat,by omega⟩
  have hn:n < l.length:=by omega
  rw [Int.toNat_natCast] at hy hz ht h
  obtain ⟨a,cap,rfl,hcap,hp⟩:=yG hv
  obtain ⟨b,off,rfl,hb,he⟩:=hp (by omega)
  have hIX:∀ W,KI w.heap.size w (l.getD n default) [] W → Calls Tryz.prog 81 #[vs,.func (.func 82) #[] #[.pointer (some ⟨w.heap.size + 1,0,none⟩)]] W fun e W' => e = .returned (.tuple #[.int .i64 y1.1,.int .i64 y1.2]) ∧ Below W.heap.size W W':=by
    intro W hK
    refine (YL s_59 Tryz.func81 rfl (by decide +kernel) (args:=[.sl 5 (List.map Al s),.fn (.func 82) [] [.ptr 5 [AE (l.getD n default)] 0 0]]) (vargs:=#[vs,.func (.func 82) #[] #[.pointer (some ⟨w.heap.size + 1,0,none⟩)]]) rfl (by rw [AGo]; rfl) rfl (fun j hj => ?_) (hg.mono (Mj hK.bel) fun _ _ c => c) (AID hy)).mono fun e w' ⟨u,h1,h2,h3⟩ => ?_
    · have hj':j < 2:=by simpa using hj
      match j,hj' with
      | 0,_ => exact VR.mono (Mj hK.bel) (fun _ _ c => c) hs
      | 1,_ => exact hK.cell _
    · have h3:VR _ w' u (.tup [.int .i64 y1.1,.int .i64 y1.2]):=h3
      exact ⟨by rw [h1,dH h3],KQ h2⟩
  have hFO:∀ W,KI w.heap.size w (l.getD n default) [] W → Calls Tryz.prog 83 #[vo,.string ⟨(l.getD n default).Observer.toArray⟩] W fun e W' => e = .returned (.tuple #[.int .i64 z1.1,.int .i64 z1.2]) ∧ Below W.heap.size W W':=by
    intro W hK
    refine (YL s_63 Tryz.func83 rfl (by decide +kernel) (args:=[.sl 2 (List.map AX o),.str (l.getD n default).Observer]) (vargs:=#[vo,.string ⟨(l.getD n default).Observer.toArray⟩]) rfl (by rw [AGn]; rfl) rfl (fun j hj => ?_) (hg.mono (Mj hK.bel) fun _ _ c => c) (AHy hz)).mono fun e w' ⟨u,h1,h2,h3⟩ => ?_
    · have hj':j < 2:=by simpa using hj
      match j,hj' with
      | 0,_ => exact VR.mono (Mj hK.bel) (fun _ _ c => c) ho
      | 1,_ => exact .str
    · have h3:VR _ w' u (.tup [.int .i64 z1.1,.int .i64 z1.2]):=h3
      exact ⟨by rw [h1,dH h3],KQ h2⟩
  have hct:cut l 0 (n:Int) = l.take n:=by simp [cut]
  rw [hct] at ht
  have hCF:∀ W zs,KI w.heap.size w (l.getD n default) zs W → Calls Tryz.prog 84 #[.slice (some ⟨b,off,none⟩) n cap,.func (.func 85) #[] #[.pointer (some ⟨w.heap.size + 1,0,none⟩)]] W fun e W' => e = .returned (.bool t) ∧ Below W.heap.size W W':=by
    intro W zs hK
    refine (YL s_66 Tryz.func84 rfl (by decide +kernel) (args:=[.sl 5 (List.map AE (l.take n)),.fn (.func 85) [] [.ptr 5 [AE (l.getD n default)] 0 0]]) (vargs:=#[.slice (some ⟨b,off,none⟩) n cap,.func (.func 85) #[] #[.pointer (some ⟨w.heap.size + 1,0,none⟩)]]) rfl (by rw [AGm]; rfl) rfl (fun j hj => ?_) (hg.mono (Mj hK.bel) fun _ _ c => c) (AHv ht)).mono fun e w' ⟨u,h1,h2,h3⟩ => ?_
    · have hj':j < 2:=by simpa using hj
      match j,hj' with
      | 0,_ => rw [List.map_take]; exact VR.mono (Mj hK.bel) (fun _ _ c => c) (AAD hv (by omega))
      | 1,_ => exact hK.cell _
    · have h3:VR _ w' u (.bool t):=h3
      cases h3
      exact ⟨h1,KQ h2⟩
  by_cases hy2:y1.2 = 0
  · have e2:(y1.2 == 0) = true:=by simpa using hy2
    rw [e2] at h hk
    have hk':0 ≤ y1.1 ∧ y1.1 < (s.length:Int):=by simpa [BA] using hk
    obtain ⟨k,hk1⟩:∃ k:Nat,y1.1 = k:=⟨y1.1.toNat,by omega⟩
    rw [hk1,Int.toNat_natCast] at h
    rw [hk1,hy2] at hIX
    obtain ⟨sa,scap,rfl,hsp⟩:=gG hs
    obtain ⟨sb,soff,rfl,hsb,hcell⟩:=hsp (by omega)
    obtain ⟨q3,q4⟩:=hcell k (by omega)
    have:=gx w b off cap l.length l rfl n hn hcap sb soff s.length scap k (by omega) hsb _ _ q3 q4 vo m hb he z1.1 z1.2 t hIX hFO hCF
    have hyy:=Option.some.inj h
    rw [← hyy]
    simpa [List.append_assoc] using this
  · have e2:(y1.2 == 0) = false:=by simpa using hy2
    rw [e2] at h
    have:=gy b off cap l.length l rfl n hn hcap vs vo m w hb he y1.1 y1.2 z1.1 z1.2 t hy2 hIX hFO hCF
    have hyy:=Option.some.inj h
    rw [← hyy]
    simpa [List.append_assoc] using this
theorem fv {vargs:Array Value} (h:vargs.size = 5):vargs = #[vargs.getD 0 undef,vargs.getD 1 undef,vargs.getD 2 undef,vargs.getD 3 undef,vargs.getD 4 undef]:=by
  obtain ⟨l⟩:=vargs
  match l,h with
  | [a,b,c,d,e],_ => rfl
theorem XD:AU Tryz.prog 36 Fp:=by
  refine ⟨fun e => Bool.noConfusion e,fun F g0 w args vargs hsh hsz hfr hok => ⟨fun e => Bool.noConfusion e,?_⟩⟩
  obtain ⟨l,i,s,o,m,y,hy,rfl⟩:=hD hok
  have h0:=It hfr (i:=0) (by simp)
  have h1:=It hfr (i:=1) (by simp)
  have h2:=It hfr (i:=2) (by simp)
  have h3:=It hfr (i:=3) (by simp)
  have h4:=It hfr (i:=4) (by simp)
  rw [fv hsz]
  generalize vargs.getD 0 undef = v0 at h0
  generalize vargs.getD 1 undef = v1 at h1
  generalize vargs.getD 2 undef = v2 at h2
  generalize vargs.getD 3 undef = v3 at h3
  generalize vargs.getD 4 undef = v4 at h4
  have g0':VR (fun _ => False) w v0 (.sl 5 (List.map AE l)):=VR.mono (At.refl _ _) (fun _ _ c => c.elim) h0
  have g1:VR (fun _ => False) w v1 (.int .i64 i):=VR.mono (At.refl _ _) (fun _ _ c => c.elim) h1
  have g2:VR (fun _ => False) w v2 (.sl 5 (List.map Al s)):=VR.mono (At.refl _ _) (fun _ _ c => c.elim) h2
  have g3:VR (fun _ => False) w v3 (.sl 2 (List.map AX o)):=VR.mono (At.refl _ _) (fun _ _ c => c.elim) h3
  have g4:VR (fun _ => False) w v4 (.int .i64 m):=VR.mono (At.refl _ _) (fun _ _ c => c.elim) h4
  cases g1
  cases g4
  have he:=Go.Proofs.enters_of (P:=Tryz.prog) Tryz.func36 (by kernel_rfl) rfl
  unfold DX
  rw [he,MW hy]
  refine (eI hy g0' g2 g3 (hfr.tab.mono (At.refl _ _) fun _ _ c => c.elim)).mono ?_
  rintro e' w' ⟨v,rfl,hr,hB⟩
  have hs:=Mj hB
  have only:∀ k h,AN k [(0,(⟨1,List.map (AV.int .i64) y⟩:Hm))] = some h → k = 0 ∧ h = ⟨1,List.map (AV.int .i64) y⟩:=by
    intro k h hg
    simp only [AN,AO,beq_iff_eq] at hg
    split at hg
    · rename_i e; cases hg; exact ⟨e.symm,rfl⟩
    · cases hg
  have noio:∀ j:Nat,([.bor,.bor,.bor,.bor,.bor]:List Md)[j]? ≠ some Md.io:=by
    intro j
    match j with
    | 0 => intro h; cases h
    | 1 => intro h; cases h
    | 2 => intro h; cases h
    | 3 => intro h; cases h
    | 4 => intro h; cases h
    | j + 5 => simp
  have fin:∀ rb cap,(0 < cap → w.heap.size ≤ rb) → GJ (AW F ⟨fun _ => rb,fun _ => cap⟩ [(0,(⟨1,List.map (AV.int .i64) y⟩:Hm))]) w' rb cap 1 (List.map (AV.int .i64) y) →
      (v = .slice (some ⟨rb,0,none⟩) y.length cap ∨ (cap = 0 ∧ v = .slice none 0 0)) →
      Yh F g0 [.sl 5 (List.map AE l),.int .i64 i,.sl 5 (List.map Al s),.sl 2 (List.map AX o),.int .i64 m] [.bor,.bor,.bor,.bor,.bor] w v w' (.fresh 1 (List.map (AV.int .i64) y)) [.any,.any,.any,.any,.any] ⟨fun _ => rb,fun _ => cap⟩ [(0,⟨1,List.map (AV.int .i64) y⟩)] (fun _ => 0):=by
    intro rb cap hlow hh hvv
    refine ⟨hs.mono fun _ _ c => c.elim,fun k h hg => ?_,fun k k' a b _ => ?_,fun k a hF' => ?_,fun k a => .inl (hlow a.2),?_,fun i j hi hj _ => ?_,fun i j hi hj => absurd hj (noio j),fun j hj => absurd hj (noio j)⟩
    · obtain ⟨rfl,rfl⟩:=only k h hg; exact hh
    · obtain ⟨⟨h,hg⟩,_⟩:=a; obtain ⟨⟨h',hg'⟩,_⟩:=b
      rw [(only k h hg).1,(only k' h' hg').1]
    · have h1:rb < w.heap.size:=hfr.fb _ hF'
      have h2:w.heap.size ≤ rb:=hlow a.2
      omega
    · exact ⟨by simp [AN],by simpa using hvv⟩
    · rw [hi.1,hj.1]
  obtain ⟨_,hr⟩:=hr
  rcases hr with ⟨rfl,hn⟩ | ⟨g,cap,cur,rfl,hb,hh,hle,_,hsize,ht⟩
  · have:y = []:=List.length_eq_zero_iff.1 hn
    subst this
    exact ⟨_,⟨fun _ => 0,fun _ => 0⟩,[(0,⟨1,[]⟩)],fun _ => 0,rfl,fin 0 0 (fun h => absurd h (by omega)) ⟨by omega,by simp,fun i hi => absurd hi (by simp),fun h => absurd h (by omega)⟩ (.inr ⟨rfl,rfl⟩)⟩
  · exact ⟨_,⟨fun _ => g,fun _ => cap⟩,[(0,⟨1,List.map (AV.int .i64) y⟩)],fun _ => 0,rfl,fin g cap (fun _ => hb) (nJ hh hle hsize ht) (.inl rfl)⟩
end Go.Proofs.YtfaenphcgfocnaaGreatDoor
