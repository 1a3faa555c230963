/- Lemmas. No condition. -/
import Derived.Test.YtegmpdmpgmpiaaaGreatDoorPK
open List renaming map->a1
set_option linter.defProp false
set_option linter.unusedSimpArgs false
set_option linter.unusedVariables false
set_option maxRecDepth 100000
namespace Go.Proofs.YtegmpdmpgmpiaaaGreatDoor.l28
open Go Go.RowKit plot rdc
variable{w:World}
def row_VR{u:Value}{l:List L8}(h:RZ 0 w u l):VR C' w u (.sl 1 (a1 AV.str l)):=by
 have R:(a1 AV.str l).length=l.length:=p'
 have C:∀k,k<l.length->(a1 AV.str l).getD k .any = .str (l.getD k default):=fun k I=>by simp[gdE,I]
 have J:∀k,k<(a1 AV.str l).length->((a1 AV.str l).getD k .any).cells.length=1/\((a1 AV.str l).getD k .any).atoms=true:=fun k I=>by
  rw[C k n'];exact⟨rfl,rfl⟩
 rcases h.2 with⟨rfl,e⟩|⟨g,cap,cur,rfl,h1,h2,h3,h4⟩
 .have e0:l=[]:=List.length_eq_zero_iff.1 e;subst e0;exact .sl 0 0 (fun _ _=>.bool false) rfl (Nat.le_refl _) (Nat.le_refl _) (fun c=>absurd c p') J (fun i j hi=>absurd hi p') (fun i j hi=>absurd hi p')
 .refine .sl g 0 (fun i _=>strV (l.getD i default)) R.symm h3 (Nat.le_refl _) (fun _=>⟨rfl,id⟩) J (fun i j hi U=>?_) (fun i j hi U=>?_)
  .obtain rfl:j=0:=n'
   rw[Nat.mul_one,Nat.add_zero,Nat.zero_add,Nz h (i:=i) n',MQ,gdE,List.getElem?_map,gdE,geE n'];rfl
  .obtain rfl:j=0:=n'
   rw[C i n'];exact .str
def init_q{d:Ad}{I C:Value}(J:GT C' w)(R:VR C' w I (.sl 5 (a1 AN d.Stars)))(hb:VR C' w C (.sl 5 (a1 AC d.Estimates))):
  Q (fun b=>b=w.heap.size) w.heap.size I C (fun _=>.slice none 0 0) ⟨d,[],[],[],false⟩ (w.alloc (.cells #[I,C,.string ⟨d.Log.toArray⟩,.slice none 0 0,.slice none 0 0,.slice none 0 0,.bool false] 46)):=by
 have hs:=AD.alloc C' w (.cells #[I,C,.string ⟨d.Log.toArray⟩,.slice none 0 0,.slice none 0 0,.slice none 0 0,.bool false] 46);refine⟨heap_alloc_new w _,fun i=>?_,fun i j _ b h=>(by cases h),fun i b h=>(by cases h),rfl,R.mono hs fun b hb c=>n',hb.mono hs fun b hb c=>n',fun b c=>by rw[c];simp,J.mono hs fun b hb c=>n'⟩
 match i with
 |0=>exact World.ownsRow_nil _ _ _ _
 |1=>exact World.ownsRow_nil _ _ _ _
 |2=>exact World.ownsRow_nil _ _ _ _
end Go.Proofs.YtegmpdmpgmpiaaaGreatDoor.l28
