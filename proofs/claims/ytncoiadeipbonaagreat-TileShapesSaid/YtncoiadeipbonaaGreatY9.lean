import Derived.Test.YtncoiadeipbonaaGreatY8
import Derived.ChangeShapes
import Derived.ChangeBears2
namespace Go.Proofs.YtncoiadeipbonaaGreat.Ab
set_option linter.unusedVariables false
set_option linter.unusedSimpArgs false
section
open Go.ChangeShapes
def ZmK (P:Program):Bool:=(List.range P.types.size).all fun t=>match P.underlying t with
 | some (.slice e)=>Nat.blt 0 (P.cellsOf e)
 | _=>true
section
variable {H:Type} {enc:TypeId × Value→H} {P:Program} {W W':World}
theorem Kept.sameAt (h:Kept W W') {p:MemPlace} (hp:p.block<W.heap.size):W.sameAt W' p:=by
 cases p with
 | cell b off =>
   simp only [World.sameAt,World.cell?]
   rw [h.same b hp]
 | map b=>exact h.same b hp
theorem Zfj (hk:Kept W W') (hl:laidOutB P=true) (hm:mapsRowed P=true) (hs:ZmK P=true):∀ {ts:List TypeId} {vs:List Value} {ds:List (DataW H)} {ps:List MemPlace},(∀ t∈ts,t<P.types.size)→(∀ p∈ps,p.block<W.heap.size) →
 DataW.TrodAll enc P W 0 (fun _=>true) true ts vs ds ps→DataW.TrodAll enc P W' 0 (fun b=>decide (b<W.heap.size)) true ts vs ds ps
 | [],vs,ds,ps,_,_,h=>by
   obtain ⟨rfl,rfl,rfl⟩:=trodAll_nil h
   exact trodAll_mk0
 | t::ts,vs,ds,ps,ht,hp,h=>by
   obtain ⟨v,vs',d,ds',p,q,rfl,rfl,rfl,h0,hr⟩:=trodAll_cons h
   obtain ⟨fuel,hf⟩:=h0
   have hsz:∀ {t e:TypeId},t<P.types.size→P.underlying t=some (.slice e)→0<P.cellsOf e:=by
    intro t e ht hu
    have:=List.all_eq_true.1 hs t (List.mem_range.2 ht)
    rw [hu] at this
    simpa [Nat.blt_eq] using this
   have h1:DataW.trod enc P W' 0 (fun b=>decide (b<W.heap.size)) true fuel t v.cells.toList=some (d,p) :=
    DataW.trod_stays (T:=(·<P.types.size)) (kids_rows hl hm) hsz (fun h=>by cases h) (ht t List.mem_cons_self) hf (fun x hx=>hk.sameAt (hp x (List.mem_append_left _ hx))) (fun x hx=>by simpa using hp x (List.mem_append_left _ hx))
   exact ⟨p,q,⟨fuel,h1⟩,Zfj hk hl hm hs (fun t h=>ht t (List.mem_cons_of_mem _ h)) (fun x hx=>hp x (List.mem_append_right _ hx)) hr,rfl⟩
theorem ZqV {f:Func} {s:ChangeSpec} {args:Array Value} {ds gs:List (DataW H)} {before:List MemPlace} {apart fresh handsOn:Bool} (hl:laidOutB P=true) (hm:mapsRowed P=true) (hs:ZmK P=true)
 (hp:(f.params.toList.all fun t=>Nat.blt t P.types.size)=true) (hv:s.vars=[]) {tb:TypeId} (hres:f.resultTypes=#[tb]) (hb:P.underlying tb=some .bool)
 (hW:DataW.Whole enc P f.params.toList s.vars apart W args.toList ds gs before) (hR:(s.fn H (ds++gs)).results=[.lit (.bool true)]) (hA:(s.fn H (ds++gs)).args=ds) (hV:(s.fn H (ds++gs)).vars=[]) (hk:Kept W W') :
 s.post enc P f apart fresh handsOn false W args (.bool true) W':=by
 have hlt:∀ p∈before,p.block<W.heap.size:=fun p h=>hW.lt p h
 have hW':=hW
 obtain ⟨p,q,h1,h2,rfl,_,_⟩:=hW
 refine ⟨ds,gs,_,[],p,[],hW',?_,?_,?_,hk.frame _,fun h=>by cases h⟩
 ·rw [hR,hres]
  exact ⟨[],[],⟨1,by simp [DataW.trod,Value.cells,hb]⟩,trodAll_mk0,rfl⟩
 ·rw [hA]
  exact Zfj hk hl hm hs (fun t ht=>by have:=List.all_eq_true.1 hp t ht;simpa [Nat.blt_eq] using this) (fun x hx=>hlt x (List.mem_append_left _ hx)) h1
 ·rw [hV,hv]
  first|exact trodVars_mk0|simp [DataW.TrodVars]
end
end
end Go.Proofs.YtncoiadeipbonaaGreat.Ab
