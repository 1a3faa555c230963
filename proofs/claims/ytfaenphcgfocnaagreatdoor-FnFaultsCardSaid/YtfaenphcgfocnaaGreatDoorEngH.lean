/- The rest of the operations that write nothing that was there. No condition. -/
import Derived.Test.YtfaenphcgfocnaaGreatDoorEngF
namespace Go.Proofs.YtfaenphcgfocnaaGreatDoor
open Go Go.RowKit
set_option linter.unusedSimpArgs false
set_option linter.unusedVariables false
section
variable {F:Nat → Prop} {g:Gh} {w:World} {tmps:Array Value} {ds:List Deferred} {vm ss:List Nat} {s:St} {P:Program} {o:Oper} {key:Nat}
theorem TL (P:Program) (w:World) (op:BinOp) (t:TypeId) (x y:Operand) (k j:IntKind) (a b:Int):(eqGuard op t x y (.int k a) (.int j b)).run P w = .ok () w:=by
 unfold eqGuard; cases op <;> simp
theorem Qu (P:Program) (w:World) (op:BinOp) (t:TypeId) (x y:Operand) (a b:Bool):(eqGuard op t x y (.bool a) (.bool b)).run P w = .ok () w:=by
 unfold eqGuard; cases op <;> simp
theorem ez (P:Program) (w:World) (op:BinOp) (t:TypeId) (x y:Operand) (a b:ByteArray):(eqGuard op t x y (.string a) (.string b)).run P w = .ok () w:=by
 unfold eqGuard; cases op <;> simp
theorem tg (P:Program) (w:World) (t:TypeId) (op:BinOp) (k:IntKind) (x y:Int) (hok:(KZ op k x y).ok = true) :
  ∃ v,(binOp op t (.int k x) (.int k y)).run P w = .ok v w ∧ ∀ S,VR S w v (KZ op k x y).v:=by
 cases op <;> simp only [KZ,Cb,Dz,bad] at hok ⊢ <;> try (cases hok; done)
 case add => exact ⟨.int k (k.wrap (x + y)),by simp [binOp,Op.intArith],fun _ => .int⟩
 case sub => exact ⟨.int k (k.wrap (x - y)),by simp [binOp,Op.intArith],fun _ => .int⟩
 case mul => exact ⟨.int k (k.wrap (x * y)),by simp [binOp,Op.intArith],fun _ => .int⟩
 case quo =>
  have h0:y ≠ 0:=by simpa [nz] using hok
  exact ⟨.int k (k.wrap (x.tdiv y)),by simp [binOp,Op.intDiv,h0],fun _ => .int⟩
 case rem =>
  have h0:y ≠ 0:=by simpa [nz] using hok
  exact ⟨.int k (x.tmod y),by simp [binOp,Op.intDiv,h0],fun _ => .int⟩
 case and => exact ⟨_,by simp only [binOp,Op.intBits]; simp only [ne_eq,not_true,if_false]; rfl,fun _ => .int⟩
 case or => exact ⟨_,by simp only [binOp,Op.intBits]; simp only [ne_eq,not_true,if_false]; rfl,fun _ => .int⟩
 case xor => exact ⟨_,by simp only [binOp,Op.intBits]; simp only [ne_eq,not_true,if_false]; rfl,fun _ => .int⟩
 case andNot => exact ⟨_,by simp only [binOp,Op.intBits]; simp only [ne_eq,not_true,if_false]; rfl,fun _ => .int⟩
 case eql => exact ⟨.bool (x == y),by simp [binOp,Op.intCmp],fun _ => .bool⟩
 case neq => exact ⟨.bool (!(x == y)),by simp [binOp,Op.intCmp,bne],fun _ => .bool⟩
 case lss => exact ⟨.bool (decide (x < y)),by simp [binOp,Op.intCmp],fun _ => .bool⟩
 case leq => exact ⟨.bool (decide (x ≤ y)),by simp [binOp,Op.intCmp],fun _ => .bool⟩
 case gtr => exact ⟨.bool (decide (y < x)),by simp [binOp,Op.intCmp],fun _ => .bool⟩
 case geq => exact ⟨.bool (decide (y ≤ x)),by simp [binOp,Op.intCmp],fun _ => .bool⟩
theorem vh (P:Program) (w:World) (t:TypeId) (op:BinOp) (k j:IntKind) (x y:Int) (hok:(yr op k x y).ok = true) :
  ∃ v,(binOp op t (.int k x) (.int j y)).run P w = .ok v w ∧ ∀ S,VR S w v (yr op k x y).v:=by
 cases op <;> simp only [yr,Cb,Dz,bad,gH,decide_eq_true_eq] at hok ⊢ <;> try (cases hok; done)
 case shl =>
  have h0:¬ y < 0:=by omega
  exact ⟨.int k (k.wrap (x * 2 ^ (min y.toNat k.bits))),by simp [binOp,Op.shift,h0],fun _ => .int⟩
 case shr =>
  have h0:¬ y < 0:=by omega
  exact ⟨.int k (x.fdiv (2 ^ (min y.toNat k.bits))),by simp [binOp,Op.shift,h0],fun _ => .int⟩
theorem pG (x y:List UInt8):(⟨x.toArray⟩:ByteArray) ++ ⟨y.toArray⟩ = ⟨(x ++ y).toArray⟩:=by
 apply ByteArray.ext
 simp
theorem pr (P:Program) (w:World) (t:TypeId) (op:BinOp) (x y:List UInt8) (hok:(SA op x y).ok = true) :
  ∃ v,(binOp op t (.string ⟨x.toArray⟩) (.string ⟨y.toArray⟩)).run P w = .ok v w ∧ ∀ S,VR S w v (SA op x y).v:=by
 cases op <;> simp only [SA,Cb,Dz,bad] at hok ⊢ <;> try (cases hok; done)
 case add =>
  have hle:x.length + y.length ≤ 9223372036854775807:=of_decide_eq_true hok
  have hn:¬ (((⟨x.toArray⟩:ByteArray).size + (⟨y.toArray⟩:ByteArray).size:Nat):Int) > IntKind.i64.max:=by
   rw [Ki,Ki]
   have:IntKind.i64.max = 9223372036854775807:=by decide
   omega
  refine ⟨.string ⟨(x ++ y).toArray⟩,?_,fun _ => .str⟩
  simp only [binOp,Op.stringOp]
  rw [if_neg hn,pG]
  rfl
 case eql => exact ⟨.bool (x == y),by simp [binOp,Op.stringOp],fun _ => .bool⟩
 case neq => exact ⟨.bool (!(x == y)),by simp [binOp,Op.stringOp],fun _ => .bool⟩
 case lss => exact ⟨.bool (Op.bytesLess x y),by simp [binOp,Op.stringOp],fun _ => .bool⟩
 case leq => exact ⟨.bool (Op.bytesLess x y || x == y),by simp [binOp,Op.stringOp],fun _ => .bool⟩
 case gtr => exact ⟨.bool (!(Op.bytesLess x y || x == y)),by simp [binOp,Op.stringOp],fun _ => .bool⟩
 case geq => exact ⟨.bool (!Op.bytesLess x y),by simp [binOp,Op.stringOp],fun _ => .bool⟩
def ua (P:Program) (t:TypeId):Bool :=
 match P.underlying t with
 | some .bool => true
 | _ => false
theorem uZ {P:Program} {t:TypeId} (h:ua P t = true):P.underlying t = some .bool:=by
 unfold ua at h; split at h
 ·assumption
 ·cases h
def ADB (P:Program) (vm ss:List Nat) (bl:Bool) (u:BinOp) (x y:CA):Op → Bool
 | .binOp u' t a b _ => BP vm ss a x && (BP vm ss b y && (u == u' && (!bl || ua P t)))
 | _ => false
theorem uA (P:Program) (w:World) (t:TypeId) (hu:P.underlying t = some .bool) (x y:Bool) (n:Nat):(Op.equalIn (n + 1) t (.bool x) (.bool y)).run P w = .ok (x == y) w:=by
 simp [Op.equalIn,run_underlying hu]
theorem AFQ (h:FR F g w tmps vm ss s) {bl:Bool} {u:BinOp} {x y:CA} (hc:ADB P vm ss bl u x y o.op = true) (hok:(YO bl u (rd s x) (rd s y)).ok = true) :
  BG (AW F g s.ob) w g s.ob key (YO bl u (rd s x) (rd s y)) ((execOp ({ tmps:=tmps,defers:=ds }:Act).eval o).run P w):=by
 unfold ADB at hc
 split at hc
 ·rename_i u' t a b yt he
  simp only [Bool.and_eq_true,beq_iff_eq] at hc
  obtain ⟨hsx,hsy,hu,hty⟩:=hc
  subst hu
  have hvx:=h.src (ds:=ds) hsx
  have hvy:=h.src (ds:=ds) hsy
  revert hok
  generalize rd s x = ax at hvx
  generalize rd s y = ay at hvy
  intro hok
  cases ax <;> cases ay <;> simp only [YO,bad] at hok <;> try (cases hok; done)
  case int.int k n j m =>
   have e1:=Ll hvx
   have e2:=Ll hvy
   rw [AO] at hok
   simp only [YO,AO]
   split
   ·rename_i hsh
    rw [if_pos hsh] at hok
    obtain ⟨v,hr,hv⟩:=vh P w t u k j n m hok
    exact .val (v:=v) (by simp [execOp,he,e1,e2,TL,hr]) (by cases u <;> rfl) (hv _).toSR
   ·rename_i hsh
    rw [if_neg hsh] at hok
    simp only [Ej,Bool.and_eq_true,beq_iff_eq] at hok
    obtain ⟨hk,hok⟩:=hok
    subst hk
    obtain ⟨v,hr,hv⟩:=tg P w t u k n m hok
    exact .val (v:=v) (by simp [execOp,he,e1,e2,TL,hr]) (by cases u <;> rfl) (hv _).toSR
  case str.str l m =>
   have e1:=OP hvx
   have e2:=OP hvy
   obtain ⟨v,hr,hv⟩:=pr P w t u l m hok
   exact .val (v:=v) (by simp [execOp,he,e1,e2,ez,hr]) (by cases u <;> rfl) (hv _).toSR
  case bool.bool p q =>
   have e1:=Lm hvx
   have e2:=Lm hvy
   simp only [Ej,Bool.and_eq_true] at hok
   obtain ⟨hbl,hok⟩:=hok
   subst hbl
   have hbt:=uZ (by simpa using hty)
   have hq:=uA P w t hbt p q 9999
   simp only [YO,Ej,Bool.true_and]
   cases u <;> simp only [af,bad] at hok <;> try (cases hok; done)
   case eql => exact .val (v:=.bool (p == q)) (by simp [execOp,he,e1,e2,Qu,binOp,Op.equal,Op.maxDepth,hq]) rfl (VR.toSR .bool)
   case neq => exact .val (v:=.bool (!(p == q))) (by simp [execOp,he,e1,e2,Qu,binOp,Op.equal,Op.maxDepth,hq]) rfl (VR.toSR .bool)
 ·cases hc
theorem NV (P:Program) (w:World) {k:IntKind} {n:Int} {y:Nat} (c:BoundsCode) (h0:0 ≤ n) (h1:n ≤ (y:Int)):(Instr.sliceBound (.int k n) y c).run P w = .ok n.toNat w:=by
 simp [Instr.sliceBound,asIntOf,h0,h1]
theorem Ym {α:Type} (l:List α) (a b:Nat):(l.take b).drop a = (l.drop a).take (b - a):=by
 rw [List.drop_take]
theorem MN (P:Program) (w:World) {isS:Bool} {len cap:Nat} {lo hi:Option Value} {a b:Int} (hlo:match lo with | some v => ∃ k,v = .int k a | none => a = 0)
  (hhi:match hi with | some v => ∃ k,v = .int k b | none => b = (len:Int)) (h0:0 ≤ a) (hab:a ≤ b) (hb:b ≤ (cap:Int)) :
  (Instr.sliceBounds isS len cap lo hi none).run P w = .ok (a.toNat,b.toNat,cap) w:=by
 have e:((b.toNat:Nat):Int) = b:=by omega
 cases lo with
 | none =>
  simp only at hlo; subst hlo
  cases hi with
  | none => simp only at hhi; subst hhi; simp [Instr.sliceBounds]
  | some v =>
   obtain ⟨k,rfl⟩:=hhi
   cases isS <;> simp [Instr.sliceBounds,NV P w _ (by omega:(0:Int) ≤ b) hb]
 | some u =>
  obtain ⟨j,rfl⟩:=hlo
  cases hi with
  | none =>
   simp only at hhi; subst hhi
   simp [Instr.sliceBounds,NV P w _ h0 hab]
  | some v =>
   obtain ⟨k,rfl⟩:=hhi
   have hb2:a ≤ ((b.toNat:Nat):Int):=by omega
   cases isS <;> simp [Instr.sliceBounds,NV P w _ (by omega:(0:Int) ≤ b) hb,NV P w _ h0 hb2]
theorem KA (h:FR F g w tmps vm ss s) {l:Option Operand} {lo:Option CA} (hc:yK vm ss l lo = true) {d:Int} (h0:0 ≤ HZ d (lo.map (rd s))) :
  match l.map ({ tmps:=tmps,defers:=ds }:Act).eval with | some v => ∃ k,v = .int k (HZ d (lo.map (rd s))) | none => HZ d (lo.map (rd s)) = d:=by
 cases l <;> cases lo <;> simp [yK] at hc
 ·rfl
 ·simp only [Option.map_some,HZ] at h0 ⊢
  exact Wz (h.src (ds:=ds) hc) h0
theorem Mw {els:List AV} {a b i:Nat} (hi:i < b - a):((els.take b).drop a).getD i .any = els.getD (a + i) .any:=by
 rw [List.getD_eq_getElem?_getD,List.getD_eq_getElem?_getD,List.getElem?_drop,List.getElem?_take,if_pos (by omega)]
theorem vj (h:FR F g w tmps vm ss s) {sz:Nat} {x:CA} {lo hi:Option CA} (hc:ia P vm ss sz x lo hi o.op = true) (hok:(KG sz (lo.map (rd s)) (hi.map (rd s)) (rd s x)).ok = true) :
  BG (AW F g s.ob) w g s.ob key (KG sz (lo.map (rd s)) (hi.map (rd s)) (rd s x)) ((execOp ({ tmps:=tmps,defers:=ds }:Act).eval o).run P w):=by
 unfold ia at hc
 split at hc
 ·rename_i t y l hh he
  simp only [Bool.and_eq_true] at hc
  obtain ⟨hs,hl,hhh,hty⟩:=hc
  have hv:=h.src (ds:=ds) hs
  revert hok
  generalize rd s x = a at hv
  intro hok
  cases a <;> simp only [KG,bad] at hok <;> try (cases hok; done)
  case str cs =>
   have hev:=OP hv
   simp only [KG,Dz,FI,Bool.and_eq_true,beq_iff_eq,decide_eq_true_eq] at hok ⊢
   obtain ⟨hz,h0,hab,hb⟩:=hok
   have hstr:dR P t = true:=by
    simp only [Bool.or_eq_true,Bool.and_eq_true] at hty
    rcases hty with hty | hty
    ·exact hty.1
    ·split at hty
     ·simp [hz] at hty
     ·cases hty
   have hu:=PP hstr
   have hb1:=KA (ds:=ds) h hl h0
   have hb2:=KA (ds:=ds) h hhh (d:=(cs.length:Int)) (by omega)
   refine .val (v:=.string ⟨(cut cs (HZ 0 (lo.map (rd s))) (HZ cs.length (hi.map (rd s)))).toArray⟩) ?_ rfl (VR.toSR .str)
   have hrun:=MN P w (isS:=false) (len:=cs.length) (cap:=cs.length) hb1 hb2 h0 hab hb
   simp [execOp,he,Instr.sliceAt,Instr.slice,run_underlying hu,hev,Ki,hrun,ByteArray.extract_mk,cut,Ym]
  case sl sz0 els =>
   simp only [SR,LI] at hv
   generalize hev:({ tmps:=tmps,defers:=ds }:Act).eval y = v at hv
   cases hv with
   | @sl ad n cap _ _ b off r hn hcap hsz0 ha hcl hw hr =>
    simp only [KG,Dz,FI,Bool.and_eq_true,beq_iff_eq,decide_eq_true_eq] at hok ⊢
    obtain ⟨hz,h0,hab,hb⟩:=hok
    subst hz
    have hslt:∃ e,jI P t = some e ∧ Ru P e = some sz0:=by
     simp only [Bool.or_eq_true,Bool.and_eq_true,beq_iff_eq] at hty
     rcases hty with hty | hty
     ·omega
     ·split at hty
      ·rename_i e he2
       simp only [Bool.and_eq_true,beq_iff_eq] at hty
       exact ⟨e,he2,hty.1⟩
      ·cases hty
    obtain ⟨e,hsl,hsz⟩:=hslt
    have hu:=Kv hsl
    have hb1:=KA (ds:=ds) h hl h0
    have hb2:=KA (ds:=ds) h hhh (d:=(els.length:Int)) (by omega)
    subst hn
    have hrun:=MN P w (isS:=true) (len:=els.length) (cap:=cap) hb1 hb2 h0 hab (by omega)
    generalize hA:HZ 0 (lo.map (rd s)) = A at *
    generalize hB:HZ (els.length:Int) (hi.map (rd s)) = B at *
    refine .val (v:=.slice (if cap = A.toNat then ad else ad.map (·.add (A.toNat * sz0))) (B.toNat - A.toNat) (cap - A.toNat)) ?_ rfl (VR.toSR ?_)
    ·simp [execOp,he,Instr.sliceAt,Instr.slice,run_underlying hu,hev,hrun,Do hsz]
    ·have hlen:((els.take B.toNat).drop A.toNat).length = B.toNat - A.toNat:=by simp; omega
     refine .sl b (off + A.toNat * sz0) (fun i j => r (A.toNat + i) j) (by rw [cut]; exact hlen.symm) (by omega) hsz0 (fun hp => ?_) (fun i hi => ?_) (fun i j hi hj => ?_) fun i j hi hj => ?_
     ·rw [cut,hlen] at hp
      obtain ⟨rfl,hns⟩:=ha (by omega)
      rw [if_neg (by omega)]
      exact ⟨by simp [Ev],hns⟩
     ·rw [cut,hlen] at hi; rw [cut,Mw hi]; exact hcl _ (by omega)
     ·rw [cut,hlen] at hi
      have:=hw (A.toNat + i) j (by omega) hj
      rw [show off + A.toNat * sz0 + (i * sz0 + j) = off + ((A.toNat + i) * sz0 + j) by rw [Nat.add_mul]; omega]
      exact this
     ·rw [cut,hlen] at hi; rw [cut,Mw hi]; exact hr _ _ (by omega) hj
  case nilsl =>
   have hev:=OQ hv
   simp only [KG,Dz,FI,Bool.and_eq_true,Bool.not_eq_true',beq_eq_false_iff_ne,decide_eq_true_eq] at hok ⊢
   obtain ⟨hz,h0,hab,hb⟩:=hok
   have hslt:∃ e,jI P t = some e ∧ Ru P e = some sz:=by
    simp only [Bool.or_eq_true,Bool.and_eq_true,beq_iff_eq] at hty
    rcases hty with hty | hty
    ·exact absurd hty.2 hz
    ·split at hty
     ·rename_i e he2
      simp only [Bool.and_eq_true,beq_iff_eq] at hty
      exact ⟨e,he2,hty.1⟩
     ·cases hty
   obtain ⟨e,hsl,hsz⟩:=hslt
   have hu:=Kv hsl
   have hb1:=KA (ds:=ds) h hl h0
   have hb2:=KA (ds:=ds) h hhh (d:=0) (by omega)
   have hrun:=MN P w (isS:=true) (len:=0) (cap:=0) hb1 hb2 h0 hab hb
   have hA:HZ 0 (lo.map (rd s)) = 0:=by omega
   have hB:HZ 0 (hi.map (rd s)) = 0:=by omega
   rw [hA,hB] at hrun
   exact .val (v:=.slice none 0 0) (by simp [execOp,he,Instr.sliceAt,Instr.slice,run_underlying hu,hev,hrun,Do hsz]) rfl (VR.toSR .nilsl)
 ·cases hc
end
open Go Go.RowKit
set_option linter.unusedSimpArgs false
set_option linter.unusedVariables false
section
variable {F:Nat → Prop} {g:Gh} {w:World} {tmps:Array Value} {ds:List Deferred} {vm ss:List Nat} {s:St} {P:Program} {o:Oper} {key:Nat}
theorem NC {vm ss:List Nat}:∀ {xs:List Operand} {ys:List CA},Ma vm ss xs ys = true → xs.length = ys.length
 | [],[],_ => rfl
 | [],_ :: _,h => by simp [Ma] at h
 | _ :: _,[],h => by simp [Ma] at h
 | a :: r,b :: q,h => by
  simp only [Ma,Bool.and_eq_true] at h
  simp [NC h.2]
theorem ND (h:FR F g w tmps vm ss s):∀ {xs:List Operand} {ys:List CA} (j:Nat),Ma vm ss xs ys = true → j < ys.length →
  SR (AW F g s.ob) w g s.ob ((xs.map ({ tmps:=tmps,defers:=ds }:Act).eval).getD j undef) ((ys.map (rd s)).getD j .any)
 | [],[],j,_,hj => by simp at hj
 | [],_ :: _,_,hc,_ => by simp [Ma] at hc
 | _ :: _,[],_,hc,_ => by simp [Ma] at hc
 | a :: r,b :: q,0,hc,_ => by
  simp only [Ma,Bool.and_eq_true] at hc
  exact h.src hc.1
 | a :: r,b :: q,j + 1,hc,hj => by
  simp only [Ma,Bool.and_eq_true] at hc
  simpa using ND h j hc.2 (by simpa using hj)
theorem SR.simple {S:Nat → Prop} {w:World} {g:Gh} {ob:CB} {v:Value} {a:AV} (h:SR S w g ob v a) (ha:a.simple = true):LI S w g ob v a:=by
 cases a <;> first | exact h | (simp [AV.simple] at ha)
theorem LT {l:List AV} {j:Nat} (hj:j < l.length):l.getD j .any ∈ l:=by
 rw [List.getD_eq_getElem?_getD,List.getElem?_eq_getElem hj]; exact List.getElem_mem hj
theorem Li (l:List Value) (j:Nat):l.toArray.getD j undef = l.getD j undef:=by
 rw [← DV]
theorem AAF (h:FR F g w tmps vm ss s) {f:Fn} {fi ca:List CA} (hc:uS vm ss f fi ca o.op = true) (hok:((fi.map (rd s) ++ ca.map (rd s)).all AV.simple) = true) :
  BG (AW F g s.ob) w g s.ob key (Dz ((fi.map (rd s) ++ ca.map (rd s)).all AV.simple) (.fn f (fi.map (rd s)) (ca.map (rd s)))) ((execOp ({ tmps:=tmps,defers:=ds }:Act).eval o).run P w):=by
 unfold uS at hc
 split at hc
 ·rename_i f' a b he
  simp only [Bool.and_eq_true,decide_eq_true_eq] at hc
  obtain ⟨hf,h1,h2⟩:=hc
  subst hf
  simp only [List.all_append,Bool.and_eq_true,List.all_eq_true] at hok
  refine .val (v:=.func f (a.map ({ tmps:=tmps,defers:=ds }:Act).eval) (b.map ({ tmps:=tmps,defers:=ds }:Act).eval)) (by simp [execOp,he,Instr.makeFunc]) rfl ?_
  refine ⟨_,_,rfl,by simpa using NC h1,by simpa using NC h2,fun j hj => ?_,fun j hj => ?_⟩
  ·rw [← DV,Array.toList_map]
   exact (ND h j h1 (by simpa using hj)).simple (hok.1 _ (LT hj))
  ·rw [← DV,Array.toList_map]
   exact (ND h j h2 (by simpa using hj)).simple (hok.2 _ (LT hj))
 ·cases hc
theorem AAG (h:FR F g w tmps vm ss s) {sz bytes:Nat} {z:AV} {l c:CA} (hc:uT P vm ss sz bytes z l c o.op = true) (hok:(XM (Ba key) sz bytes z (rd s l) (rd s c)).ok = true) (hp:1 ≤ sz) :
  BG (AW F g s.ob) w g s.ob key (XM (Ba key) sz bytes z (rd s l) (rd s c)) ((execOp ({ tmps:=tmps,defers:=ds }:Act).eval o).run P w):=by
 unfold uT at hc
 split at hc
 ·rename_i t a b he
  simp only [Bool.and_eq_true] at hc
  obtain ⟨hs1,hs2,hty⟩:=hc
  split at hty
  ·rename_i e hsl
   simp only [Bool.and_eq_true,beq_iff_eq] at hty
   obtain ⟨hsz,hby,hty⟩:=hty
   split at hty
   ·rename_i zv hz
    simp only [Bool.and_eq_true,beq_iff_eq] at hty
    obtain ⟨hzz,hzl,hza⟩:=hty
    have hu:=Kv hsl
    obtain ⟨i,hi,hib⟩:=fZ hby
    have hv1:=h.src (ds:=ds) hs1
    have hv2:=h.src (ds:=ds) hs2
    revert hok
    generalize rd s l = al at hv1
    generalize rd s c = ac at hv2
    intro hok
    cases al <;> cases ac <;> simp only [XM,bad] at hok <;> try (cases hok; done)
    case int.int k n k2 m =>
     simp only [XM,qc,Bool.and_eq_true,beq_iff_eq,decide_eq_true_eq] at hok ⊢
     obtain ⟨hnm,h0,hb1,hb2⟩:=hok
     subst hnm
     have e1:=Ll hv1
     have e2:=Ll hv2
     have hn48:n ≤ 281474976710656:=by
      have:n * 1 ≤ n * bytes:=Int.mul_le_mul_of_nonneg_left (by omega) h0
      omega
     have hw:IntKind.i64.wrap n = n:=IntWalk.i64_in n ⟨by omega,by omega⟩
     have hvc:=(cd (S:=AW F g s.ob) (w:=w) hzz).cells hza
     have hzs:zv.cells.size = sz:=by rw [hvc.1,hzl]
     have harr:∃ arr:Array Value,arr.size = n.toNat * sz ∧ (∀ i j,i < n.toNat → j < sz → arr.getD (i * sz + j) undef = zv.cells.getD j undef) ∧
       (Instr.makeSlice t (.int k n) (.int k2 n)).run P w = .ok (.slice (some ⟨w.heap.size,0,none⟩) n.toNat n.toNat) (w.alloc (.cells arr e)):=by
      have hc2:¬ (n * (bytes:Int) > 281474976710656):=by omega
      have hc3:¬ ((bytes:Int) * n > 281474976710656):=by rw [Int.mul_comm]; exact hc2
      refine ⟨(Array.range (n.toNat * sz)).map ((if n.toNat * sz = 0 then #[] else zv.cells)[· % (if n.toNat * sz = 0 then (#[]:Array Value) else zv.cells).size]!),by simp,fun i j hi hj => ?_,?_⟩
      ·have hlt:i * sz + j < n.toNat * sz:=by
        have:(i + 1) * sz ≤ n.toNat * sz:=Nat.mul_le_mul_right _ (by omega)
        rw [Nat.add_mul] at this; omega
       have hne:n.toNat * sz ≠ 0:=by omega
       have hmod:(i * sz + j) % sz = j:=by rw [Nat.mul_comm,Nat.mul_add_mod]; exact Nat.mod_eq_of_lt hj
       rw [Array.getD_eq_getD_getElem?,Array.getElem?_eq_getElem (by simpa using hlt)]
       simp only [Array.getElem_map,Array.getElem_range,Option.getD_some,if_neg hne,hzs,hmod]
       rw [getElem!_pos zv.cells j (by omega),Array.getD_eq_getD_getElem?,Array.getElem?_eq_getElem (by omega)]; rfl
      ·by_cases hz0:n.toNat * sz = 0
       ·simp [Instr.makeSlice,run_underlying hu,asInt,asIntOf,Pa hi,hib,hw,h0,hc3,Do hsz,hz0,newRow]
        omega
       ·simp [Instr.makeSlice,run_underlying hu,asInt,asIntOf,Pa hi,hib,hw,h0,hc3,Do hsz,hz0,newRow,NU hz]
        omega
     obtain ⟨arr,hasz,hget,hrun⟩:=harr
     refine ⟨.slice (some ⟨w.heap.size,0,none⟩) n.toNat n.toNat,w.alloc (.cells arr e),by simp [execOp,he,e1,e2,hrun],At.alloc _ _ _,.inr ⟨_,_,w.heap.size,n.toNat,rfl,by simp [Ba],Nat.le_refl _,fun S' hS => ?_,.inl ⟨rfl,.inl (by simp)⟩⟩⟩
     refine ⟨hp,by simp,fun i hi => ?_,fun _ => ⟨arr,e,(0,0),heap_alloc_new _ _,.inl rfl,hasz,fun i j hi hj => ?_⟩⟩
     ·have:(List.replicate n.toNat z).getD i .any = z:=by
       rw [List.getD_eq_getElem?_getD,List.getElem?_replicate,if_pos (by simpa using hi)]; rfl
      rw [this]; exact ⟨hzl,hza⟩
     ·have hi':i < n.toNat:=by simpa using hi
      have:(List.replicate n.toNat z).getD i .any = z:=by
       rw [List.getD_eq_getElem?_getD,List.getElem?_replicate,if_pos hi']; rfl
      rw [this,hget i j hi' hj]
      refine (hvc.2 j (by rw [hzl]; exact hj)).mono (At.alloc _ _ _) fun b hb hc => ?_
      rcases hS b hc with e | e
      ·exact e
      ·omega
   ·cases hty
  ·cases hty
 ·cases hc
theorem YA (P:Program) (w:World) (mx:Bool) (k:IntKind):∀ (r:List AV) (vs:List Value) (n:Int),vs.length = r.length → (∀ j,j < r.length → ∃ m,r.getD j .any = .int k m ∧ vs.getD j undef = .int k m) →
  ∃ m,Sf mx (.int k n) r = .int k m ∧ (vs.foldlM (bif mx then Builtin.max2 else Builtin.min2) (.int k n)).run P w = .ok (.int k m) w
 | [],[],n,_,_ => ⟨n,rfl,rfl⟩
 | [],_ :: _,_,hl,_ => by simp at hl
 | _ :: _,[],_,hl,_ => by simp at hl
 | a :: r,v :: vs,n,hl,h => by
  obtain ⟨m,ha,hv⟩:=h 0 (by simp)
  simp only [List.getD_cons_zero] at ha hv
  subst ha hv
  have ih:=YA P w mx k r vs (bif mx then (if n < m then m else n) else (if m < n then m else n)) (by simpa using hl) (fun j hj => by simpa using h (j + 1) (by simpa using hj))
  obtain ⟨q,e1,e2⟩:=ih
  refine ⟨q,by simp only [Sf,mm2]; exact e1,?_⟩
  rw [List.foldlM_cons,Sem.run_bind]
  cases mx
  ·simp only [cond_false] at e2 ⊢
   simp only [Builtin.min2,Sem.run_pure,Result.andThen_ok]
   exact e2
  ·simp only [cond_true] at e2 ⊢
   simp only [Builtin.max2,Sem.run_pure,Result.andThen_ok]
   exact e2
theorem s_mm (h:FR F g w tmps vm ss s) {mx:Bool} {xs:List CA} (hc:cMM vm ss mx xs o.op = true) (hok:(wC mx (xs.map (rd s))).ok = true) :
  BG (AW F g s.ob) w g s.ob key (wC mx (xs.map (rd s))) ((execOp ({ tmps:=tmps,defers:=ds }:Act).eval o).run P w):=by
 unfold cMM at hc
 split at hc
 ·rename_i b args tys he
  simp only [Bool.and_eq_true] at hc
  obtain ⟨hl,hb⟩:=hc
  cases xs with
  | nil => simp [wC,bad] at hok
  | cons x xs =>
   obtain ⟨args⟩:=args
   simp only at hl
   cases args with
   | nil => simp [Ma] at hl
   | cons a args =>
    simp only [Ma,Bool.and_eq_true] at hl
    have hv:=h.src (ds:=ds) hl.1
    simp only [List.map_cons] at hok ⊢
    revert hok
    generalize rd s x = ax at hv
    intro hok
    cases ax <;> simp only [wC,bad] at hok <;> try (cases hok; done)
    case int k n =>
     have e1:=Ll hv
     simp only [wC,Dz,List.all_eq_true] at hok ⊢
     have hlen:=NC hl.2
     obtain ⟨m,e2,e3⟩:=YA P w mx k (xs.map (rd s)) (args.map ({ tmps:=tmps,defers:=ds }:Act).eval) n (by simpa using hlen) (fun j hj => by
      have hsr:=ND (ds:=ds) h j hl.2 (by simpa using hj)
      have hk:=hok _ (LT hj)
      revert hk hsr
      generalize (xs.map (rd s)).getD j .any = q
      intro hsr hk
      cases q <;> simp [bO] at hk
      subst hk
      exact ⟨_,rfl,Ll hsr⟩)
     rw [e2]
     refine .val (v:=.int k m) ?_ rfl (VR.toSR .int)
     cases mx <;> cases b <;> simp at hb <;> simp [execOp,he,resolve,invoke,builtin,Builtin.min_,Builtin.max_,e1] <;> simp only [cond_false,cond_true] at e3 <;> simp [e3]
 ·cases hc
def jS (P:Program) (t:TypeId):Nat :=
 match P.underlying t with
 | some .bool => 0
 | some (.int _) => 1
 | some .string => 2
 | _ => 9
def Zp (P:Program):Nat → List Nat → List Field → Bool
 | n,k :: ks,f :: fs => (f.name != "_") && ((f.offset == n) && ((k == jS P f.type) && (Nat.ble k 2 && (fe P f.type == some false && Zp P (n + 1) ks fs))))
 | _,[],[] => true
 | _,_,_ => false
def eqT (P:Program) (ks:List Nat) (t:TypeId):Bool :=
 (match P.underlying t with | some (.struct _) => true | _ => false) && (!P.stoodInHeld t && (!P.eqGuardType P.depth t && Zp P 0 ks (P.fieldsOf t).toList))
def ACz (P:Program) (vm ss:List Nat) (neg:Bool) (ks:List Nat) (x y:CA):Op → Bool
 | .binOp u t a b _ => BP vm ss a x && (BP vm ss b y && ((match u with | .eql => !neg | .neq => neg | _ => false) && eqT P ks t))
 | _ => false
theorem Qv (P:Program) (w:World) (S:Nat → Prop) (d:Nat) (xs ys:Array Value):∀ (n:Nat) (ks:List Nat) (fs:List Field) (a b:List AV),Zp P n ks fs = true → GV ks a b = true →
  (∀ j,j < a.length → n + j < xs.size ∧ VR S w (xs.getD (n + j) undef) (a.getD j .any)) → (∀ j,j < b.length → n + j < ys.size ∧ VR S w (ys.getD (n + j) undef) (b.getD j .any)) →
  (Op.eqFields (d + 1) xs ys fs).run P w = .ok (JX a b) w
 | _,[],[],a,b,_,hok,_,_ => by
  cases a <;> cases b <;> simp [GV] at hok
  simp [Op.eqFields,JX]
 | _,[],_ :: _,_,_,hf,_,_,_ => by simp [Zp] at hf
 | _,_ :: _,[],_,_,hf,_,_,_ => by simp [Zp] at hf
 | n,k :: ks,f :: fs,a,b,hf,hok,hx,hy => by
  cases a with
  | nil => simp [GV] at hok
  | cons p r =>
   cases b with
   | nil => simp [GV] at hok
   | cons q t =>
    simp only [Zp,Bool.and_eq_true,bne_iff_ne,beq_iff_eq] at hf
    obtain ⟨hname,hoff,hk,hk2,hagg,hrest⟩:=hf
    simp only [GV,Bool.and_eq_true] at hok
    have ih:=Qv P w S d xs ys (n + 1) ks fs r t hrest hok.2 (fun j hj => by have:=hx (j + 1) (by simpa using hj); rw [Nat.add_assoc,Nat.add_comm 1 j]; simpa using this) (fun j hj => by have:=hy (j + 1) (by simpa using hj); rw [Nat.add_assoc,Nat.add_comm 1 j]; simpa using this)
    have h1:=hx 0 (by simp)
    have h2:=hy 0 (by simp)
    simp only [Nat.add_zero,List.getD_cons_zero] at h1 h2
    obtain ⟨u1,g1,gu1⟩:=RA h1.1
    obtain ⟨u2,g2,gu2⟩:=RA h2.1
    rw [gu1] at h1
    rw [gu2] at h2
    have hp1:(Go.part f.type xs f.offset).run P w = .ok u1 w:=by simp [Go.part,LP hagg,hoff,g1]
    have hp2:(Go.part f.type ys f.offset).run P w = .ok u2 w:=by simp [Go.part,LP hagg,hoff,g2]
    have heq:(Op.equalIn (d + 1) f.type u1 u2).run P w = .ok (zG p q) w:=by
     have hok1:=hok.1
     cases p <;> cases q <;> simp only [Zu] at hok1 <;> try (cases hok1; done)
     case int.int k1 x1 k2 x2 =>
      simp only [Bool.and_eq_true,beq_iff_eq] at hok1
      obtain ⟨rfl,rfl⟩:=hok1
      cases h1.2; cases h2.2
      have:∃ kk,P.underlying f.type = some (.int kk):=by
       unfold jS at hk; split at hk <;> simp at hk; exact ⟨_,by assumption⟩
      obtain ⟨kk,hu⟩:=this
      exact run_equalIn_int w d f.type k1 kk x1 x2 hu
     case bool.bool x1 x2 =>
      simp only [beq_iff_eq] at hok1
      subst hok1
      cases h1.2; cases h2.2
      have hu:P.underlying f.type = some .bool:=by
       unfold jS at hk; split at hk <;> simp at hk; assumption
      exact run_equalIn_bool' w d f.type x1 x2 hu
     case str.str x1 x2 =>
      simp only [beq_iff_eq] at hok1
      subst hok1
      cases h1.2; cases h2.2
      have hu:P.underlying f.type = some .string:=by
       unfold jS at hk; split at hk <;> simp at hk; assumption
      have:=run_equalIn_string w d f.type (⟨x1.toArray⟩:ByteArray) ⟨x2.toArray⟩ hu
      simpa [zG] using this
    simp only [Op.eqFields,Sem.run_ite,Sem.run_bind,if_pos hname,hp1,hp2,heq,Result.andThen_ok,JX]
    cases hE:zG p q
    ·simp
    ·simp [ih]
theorem AFO (h:FR F g w tmps vm ss s) {neg:Bool} {ks:List Nat} {x y:CA} (hc:ACz P vm ss neg ks x y o.op = true) (hok:(NB neg ks (rd s x) (rd s y)).ok = true) :
  BG (AW F g s.ob) w g s.ob key (NB neg ks (rd s x) (rd s y)) ((execOp ({ tmps:=tmps,defers:=ds }:Act).eval o).run P w):=by
 unfold ACz at hc
 split at hc
 ·rename_i u t a b yt he
  simp only [Bool.and_eq_true] at hc
  obtain ⟨hs1,hs2,hu,hty⟩:=hc
  have hv1:=h.src (ds:=ds) hs1
  have hv2:=h.src (ds:=ds) hs2
  revert hok
  generalize rd s x = ax at hv1
  generalize rd s y = ay at hv2
  intro hok
  cases ax <;> cases ay <;> simp only [NB,bad] at hok <;> try (cases hok; done)
  case agg.agg p q =>
   simp only [SR,LI] at hv1 hv2
   generalize e1:({ tmps:=tmps,defers:=ds }:Act).eval a = v1 at hv1
   generalize e2:({ tmps:=tmps,defers:=ds }:Act).eval b = v2 at hv2
   cases hv1 with
   | @agg xs _ n1 _ r1 =>
    cases hv2 with
    | @agg ys _ n2 _ r2 =>
     simp only [NB,Dz] at hok ⊢
     simp only [eqT,Bool.and_eq_true,Bool.not_eq_true'] at hty
     obtain ⟨hst,hsh,hg,hf⟩:=hty
     have hst':P.underlying t = some (.struct (P.fieldsOf t)):=by
      unfold Program.fieldsOf
      split at hst
      ·rename_i fs hfs; rw [hfs]
      ·cases hst
     have hrun:=Qv P w (AW F g s.ob) 9998 xs ys 0 ks _ p q hf hok (fun j hj => by rw [Nat.zero_add]; exact ⟨by omega,r1 j hj⟩) (fun j hj => by rw [Nat.zero_add]; exact ⟨by omega,r2 j hj⟩)
     have hall:=run_equalIn_struct (P:=P) w 9999 t xs ys hst' hsh
     rw [hrun] at hall
     cases u <;> simp at hu
     ·subst hu
      exact .val (v:=.bool (JX p q)) (by simp [execOp,he,e1,e2,run_eqGuard_agg w .eql t a b xs ys hg,run_eql_struct,hall]) rfl (VR.toSR .bool)
     ·subst hu
      exact .val (v:=.bool (!JX p q)) (by simp [execOp,he,e1,e2,run_eqGuard_agg w .neq t a b xs ys hg,run_neq_struct,hall]) rfl (VR.toSR .bool)
 ·cases hc
end
end Go.Proofs.YtfaenphcgfocnaaGreatDoor
