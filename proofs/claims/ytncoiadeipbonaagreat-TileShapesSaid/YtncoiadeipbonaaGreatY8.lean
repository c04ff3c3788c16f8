import Derived.Test.YtncoiadeipbonaaGreatY7
import Derived.ChangeStays
import Derived.ChangeSame
namespace Go.Proofs.YtncoiadeipbonaaGreat.Ab
set_option linter.unusedVariables false
set_option linter.unusedSimpArgs false
section
def Zb8:Nat→Prop:=fun _=>False
def Zch:Nat→Option Nat:=fun _=>none
structure Kept (W W':World):Prop where
 os:W'.os=W.os
 out:W'.output=W.output
 size:W.heap.size≤W'.heap.size
 same:∀ b,b<W.heap.size→W'.heap[b]?=W.heap[b]?
theorem Zki {P:Program} {f:FuncId} {args:List AV} {v:AV} (h:APure P f args v) {vs:Array Value} {W:World} (hr:Reps W Zb8 Zch 0 args vs.toList) :
 Calls P f vs W fun e W'=>∃ u,e=.returned u∧Rep W' Zb8 Zch 0 v u∧Kept W W':=by
 intro cs
 obtain ⟨⟨_,hc⟩,h1,h2⟩:=h
 have hno:∀ b,Own Zb8 Zch [] b→Zb8 b:=fun b hb=>(ZbZ _ _ b).1 hb
 obtain ⟨u,w',⟨fr,hst,hfn,hlv⟩,ρ',av,hp',nx',rfl,hrep,H',hb,_,_⟩:=hc Zb8 Zch vs W (Zcu _ W (fun b hb=>hb.elim)) (hr.pure hno h1) cs
 exact ⟨.returned u,w',fr,⟨u,rfl,hrep.pure (fun b hb=>hb.elim) h2,hb.os,hb.out,hb.size,fun b hlt=>hb.same b hlt (fun ho=>(hno b ho).elim)⟩,hst,hfn,hlv⟩
theorem Kept.frame {W W':World} (h:Kept W W') (may:MemPlace→Prop):W.keptBut W' may :=
 ⟨h.os,h.out,fun i hi=>by rw [h.same i hi];exact (World.keptBut_refl W may).2.2 i hi⟩
end
end Go.Proofs.YtncoiadeipbonaaGreat.Ab
