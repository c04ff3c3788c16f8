import Derived.Test.YtncoiadeipbonaaGreatY1
import Derived.WalkKit
import Derived.RowKit3
namespace Go.Proofs.YtncoiadeipbonaaGreat.Ab
set_option linter.unusedVariables false
set_option linter.unusedSimpArgs false
section
section rep
variable (w:World) (own:Nat→Prop) (ρ:Nat→Option Nat) (nx:Nat)
inductive Rep:AV→Value→Prop
 | int (k:IntKind) (n:Int):Rep (.int k n) (.int k n)
 | bool (b:Bool):Rep (.bool b) (.bool b)
 | str (s:ByteArray):Rep (.str s) (.string s)
 | agg (cs:List AV) (vs:Array Value) (hl:vs.size=cs.length) (h:∀ (j:Nat) (a:AV) (u:Value),cs[j]?=some a→vs[j]?=some u→Rep a u):Rep (.agg cs) (.agg vs)
 | tup (cs:List AV) (vs:Array Value) (hl:vs.size=cs.length) (h:∀ (j:Nat) (a:AV) (u:Value),cs[j]?=some a→vs[j]?=some u→Rep a u):Rep (.tup cs) (.tuple vs)
 | ptr (n i wd c b:Nat) (hn:n<nx) (hρ:ρ n=some b):Rep (.ptr n i wd c) (.pointer (some ⟨b,i*wd+c,none⟩))
 | nilp:Rep .nilp (.pointer none)
 | sl (n wd lo len b cap:Nat) (e:TypeId) (sz:Nat) (hn:n<nx) (hρ:ρ n=some b) (hsh:w.shape? b=some (e,sz)) (hsz:lo*wd+cap*wd≤sz) (hlen:len≤cap) :
    Rep (.sl n wd lo len) (.slice (some ⟨b,lo*wd,none⟩) len cap)
 | slv (n wd lo:Nat) (a:Option Addr) (hn:n<nx) (hρ:ρ n=none):Rep (.sl n wd lo 0) (.slice a 0 0)
 | esl:Rep .esl (.slice none 0 0)
 | isl0 (wd:Nat) (a:Option Addr) (cap:Nat):Rep (.isl wd []) (.slice a 0 cap)
 | isl (wd:Nat) (xs:List AV) (b o cap:Nat) (us:Nat→Nat→Value) (hlt:b<w.heap.size) (hb:¬ own b) (hw:∀ x∈xs,x.cells.length=wd)
    (hc:∀ (i:Nat) (x:AV) (c:Nat) (a:AV),xs[i]?=some x→x.cells[c]?=some a→w.cell? ⟨b,o+(i*wd+c),none⟩=some (us i c))
    (hr:∀ (i:Nat) (x:AV) (c:Nat) (a:AV),xs[i]?=some x→x.cells[c]?=some a→Rep a (us i c)) (hcap:xs.length≤cap) :
    Rep (.isl wd xs) (.slice (some ⟨b,o,none⟩) xs.length cap)
 | fsl (wd:Nat) (xs:List AV) (a:Option Addr) (h:Rep (.isl wd xs) (.slice a xs.length xs.length)):Rep (.fsl wd xs) (.slice a xs.length xs.length)
 | ip (cs:List AV) (c b o:Nat) (us:Nat→Value) (hlt:b<w.heap.size) (hb:¬ own b) (hc:∀ (j:Nat) (a:AV),cs[j]?=some a→w.cell? ⟨b,o+j,none⟩=some (us j))
    (hr:∀ (j:Nat) (a:AV),cs[j]?=some a→Rep a (us j)):Rep (.ip cs c) (.pointer (some ⟨b,o+c,none⟩))
 | imap (kvs:List (AV × AV)) (r:Nat) (es:Array MapEntry) (clock:Nat) (hb:¬ own r) (hh:w.heap[r]?=some (.map es clock)) (hl:es.size=kvs.length)
    (hk:∀ (j:Nat) (kv:AV × AV) (e:MapEntry),kvs[j]?=some kv→es[j]?=some e→Rep kv.1 e.key)
    (hv:∀ (j:Nat) (kv:AV × AV) (e:MapEntry),kvs[j]?=some kv→es[j]?=some e→Rep kv.2 e.val):Rep (.imap kvs) (.map (some r))
 | mp (n b:Nat) (hn:n<nx) (hρ:ρ n=some b):Rep (.mp n) (.map (some b))
 | fn (f:Fn) (first cap:List AV) (vs us:Array Value) (hl:vs.size=first.length) (hm:us.size=cap.length)
    (h:∀ (j:Nat) (a:AV) (u:Value),first[j]?=some a→vs[j]?=some u→Rep a u)
    (h':∀ (j:Nat) (a:AV) (u:Value),cap[j]?=some a→us[j]?=some u→Rep a u):Rep (.fn f first cap) (.func f vs us)
 | yld (n b:Nat) (hn:n<nx) (hρ:ρ n=some b):Rep (.yld n) (.func (.yield b) #[] #[])
 | nilf:Rep .nilf .nilFunc
 | any (v:Value):Rep .any v
def Reps (as:List AV) (vs:List Value):Prop:=as.length=vs.length∧∀ (j:Nat) (a:AV) (u:Value),as[j]?=some a→vs[j]?=some u→Rep w own ρ nx a u
def FrRep (fr:Fr) (tmps:Array Value):Prop:=∀ (t:Nat) (v:AV),lk fr t=some v→∃ u,tmps[t]?=some u∧Rep w own ρ nx v u
inductive BRep (b:Nat):AB→Prop
 | cells (cs:List AV) (c:Array Value) (e:TypeId) (fz:Nat × Nat) (h:w.heap[b]?=some (.cells c e fz)) (hz:fz.2≤fz.1) (hl:c.size=cs.length)
    (hr:∀ (j:Nat) (a:AV) (u:Value),cs[j]?=some a→c[j]?=some u→Rep w own ρ nx a u):BRep b (.cells cs)
 | row (wd:Nat) (xs:List AV) (c:Array Value) (e:TypeId) (fz:Nat × Nat) (h:w.heap[b]?=some (.cells c e fz)) (hz:fz.2≤fz.1) (hl:xs.length*wd≤c.size)
    (hw:∀ x∈xs,x.cells.length=wd)
    (hr:∀ (i:Nat) (x:AV) (k:Nat) (a:AV) (u:Value),xs[i]?=some x→x.cells[k]?=some a→c[i*wd+k]?=some u→Rep w own ρ nx a u):BRep b (.row wd xs)
 | map (kvs:List (AV × AV)) (es:Array MapEntry) (clock:Nat) (h:w.heap[b]?=some (.map es clock)) (hl:es.size=kvs.length)
    (hk:∀ (j:Nat) (kv:AV × AV) (e:MapEntry),kvs[j]?=some kv→es[j]?=some e→Rep w own ρ nx kv.1 e.key)
    (hv:∀ (j:Nat) (kv:AV × AV) (e:MapEntry),kvs[j]?=some kv→es[j]?=some e→Rep w own ρ nx kv.2 e.val):BRep b (.map kvs)
 | loop (fr:Fr) (nt:Nat) (L:Loop) (h:w.heap[b]?=some (.loop L)) (ht:L.tmps.size=nt) (hr:FrRep w own ρ nx fr L.tmps):BRep b (.loop fr nt L.params L.assign L.body L.state L.pending)
end rep
def Own (X:Nat→Prop) (ρ:Nat→Option Nat) (hp:Hp) (b:Nat):Prop:=X b∨∃ n ab,lk hp n=some ab∧ρ n=some b
structure HRep X (w:World) (ρ:Nat→Option Nat) (nx:Nat) (hp:Hp):Prop where
 lt:∀ n ab,lk hp n=some ab→n<nx
 blk:∀ n ab,lk hp n=some ab→(∃ b,ρ n=some b∧BRep w (Own X ρ hp) ρ nx b ab)∨(ρ n=none∧∃ wd,ab=.row wd [])
 xlt:∀ b,X b→b<w.heap.size
 disj:∀ n ab b,lk hp n=some ab→ρ n=some b→¬ X b
 inj:∀ n m ab ab' b,lk hp n=some ab→lk hp m=some ab'→ρ n=some b→ρ m=some b→n=m
structure Evo (X:Nat→Prop) (w:World) (own:Nat→Prop) (ρ:Nat→Option Nat) (nx:Nat) (w':World) (own':Nat→Prop) (ρ':Nat→Option Nat) (nx':Nat):Prop where
 names:∀ n,n<nx→ρ' n=ρ n
 nx:nx≤nx'
 same:∀ b,b<w.heap.size→¬ own b→w'.heap[b]?=w.heap[b]?
 xsame:∀ b,X b→w'.heap[b]?=w.heap[b]?
 owns:∀ b,b<w.heap.size→own' b→own b
 size:w.heap.size≤w'.heap.size
 shape:∀ b e k,w.shape? b=some (e,k)→w'.shape? b=some (e,k)
structure EvoW (X:Nat→Prop) (w:World) (own:Nat→Prop) (ρ:Nat→Option Nat) (nx:Nat) (w':World) (own':Nat→Prop) (ρ':Nat→Option Nat) (nx':Nat):Prop where
 names:∀ n,n<nx→ρ' n=ρ n
 nx:nx≤nx'
 same:∀ b,b<w.heap.size→¬ own b→w'.heap[b]?=w.heap[b]?∨∃ d,w.heap[b]?=some (.deferred d)
 owns:∀ b,b<w.heap.size→own' b→own b
 size:w.heap.size≤w'.heap.size
 shape:∀ b e k,w.shape? b=some (e,k)→w'.shape? b=some (e,k)
theorem Evo.weak {X:Nat→Prop} {w:World} {own:Nat→Prop} {ρ:Nat→Option Nat} {nx:Nat} {w':World} {own':Nat→Prop} {ρ':Nat→Option Nat} {nx':Nat} (E:Evo X w own ρ nx w' own' ρ' nx') :
 EvoW X w own ρ nx w' own' ρ' nx':=⟨E.names,E.nx,fun b h1 h2=>.inl (E.same b h1 h2),E.owns,E.size,E.shape⟩
theorem Za2 {w:World} {b:Nat} {o:Obj} (h:w.heap[b]?=some o):b<w.heap.size:=by
 rcases Nat.lt_or_ge b w.heap.size with h'|h'
 ·exact h'
 ·simp [Array.getElem?_eq_none h'] at h
theorem Zp9 {w w':World} {b o:Nat} {u:Value} (h:w.cell? ⟨b,o,none⟩=some u) (hs:w'.heap[b]?=w.heap[b]?):w'.cell? ⟨b,o,none⟩=some u:=by
 simp only [World.cell?] at h ⊢
 rw [hs];exact h
theorem ZiP {w w':World} {b o:Nat} {u:Value} (h:w.cell? ⟨b,o,none⟩=some u) (hs:w'.heap[b]?=w.heap[b]?∨∃ d,w.heap[b]?=some (.deferred d)):w'.cell? ⟨b,o,none⟩=some u:=by
 rcases hs with hs|⟨d,hd⟩
 ·exact Zp9 h hs
 ·simp [World.cell?,hd] at h
theorem Rep.monoW {X:Nat→Prop} {w:World} {own:Nat→Prop} {ρ:Nat→Option Nat} {nx:Nat} {w':World} {own':Nat→Prop} {ρ':Nat→Option Nat} {nx':Nat}
 (E:EvoW X w own ρ nx w' own' ρ' nx') {a:AV} {v:Value} (h:Rep w own ρ nx a v):Rep w' own' ρ' nx' a v:=by
 induction h with
 | int k n=>exact .int k n
 | bool b=>exact .bool b
 | str s=>exact .str s
 | agg cs vs hl h ih=>exact .agg cs vs hl ih
 | tup cs vs hl h ih=>exact .tup cs vs hl ih
 | ptr n i wd c b hn hρ=>exact .ptr n i wd c b (Nat.lt_of_lt_of_le hn E.nx) ((E.names n hn).trans hρ)
 | nilp=>exact .nilp
 | sl n wd lo len b cap e sz hn hρ hsh hsz hlen=>exact .sl n wd lo len b cap e sz (Nat.lt_of_lt_of_le hn E.nx) ((E.names n hn).trans hρ) (E.shape _ _ _ hsh) hsz hlen
 | slv n wd lo a hn hρ=>exact .slv n wd lo a (Nat.lt_of_lt_of_le hn E.nx) ((E.names n hn).trans hρ)
 | esl=>exact .esl
 | isl0 wd a cap=>exact .isl0 wd a cap
 | fsl wd xs a h ih=>exact .fsl wd xs a ih
 | isl wd xs b o cap us hlt hb hw hc hr hcap ih =>
   exact .isl wd xs b o cap us (Nat.lt_of_lt_of_le hlt E.size) (fun ho=>hb (E.owns b hlt ho)) hw (fun i x c a hx ha=>ZiP (hc i x c a hx ha) (E.same b hlt hb)) ih hcap
 | ip cs c b o us hlt hb hc hr ih =>
   exact .ip cs c b o us (Nat.lt_of_lt_of_le hlt E.size) (fun ho=>hb (E.owns b hlt ho)) (fun j a ha=>ZiP (hc j a ha) (E.same b hlt hb)) ih
 | imap kvs r es clock hb hh hl hk hv ihk ihv =>
   have hlt:=Za2 hh
   exact .imap kvs r es clock (fun ho=>hb (E.owns r hlt ho)) (by rcases E.same r hlt hb with h|⟨d,h⟩;exact h.trans hh;rw [hh] at h;cases h) hl ihk ihv
 | mp n b hn hρ=>exact .mp n b (Nat.lt_of_lt_of_le hn E.nx) ((E.names n hn).trans hρ)
 | fn f first cap vs us hl hm h h' ih ih'=>exact .fn f first cap vs us hl hm ih ih'
 | yld n b hn hρ=>exact .yld n b (Nat.lt_of_lt_of_le hn E.nx) ((E.names n hn).trans hρ)
 | nilf=>exact .nilf
 | any v=>exact .any v
theorem Rep.mono {X:Nat→Prop} {w:World} {own:Nat→Prop} {ρ:Nat→Option Nat} {nx:Nat} {w':World} {own':Nat→Prop} {ρ':Nat→Option Nat} {nx':Nat}
 (E:Evo X w own ρ nx w' own' ρ' nx') {a:AV} {v:Value} (h:Rep w own ρ nx a v):Rep w' own' ρ' nx' a v:=h.monoW E.weak
theorem FrRep.mono {X:Nat→Prop} {w:World} {own:Nat→Prop} {ρ:Nat→Option Nat} {nx:Nat} {w':World} {own':Nat→Prop} {ρ':Nat→Option Nat} {nx':Nat}
 (E:Evo X w own ρ nx w' own' ρ' nx') {fr:Fr} {tmps:Array Value} (h:FrRep w own ρ nx fr tmps):FrRep w' own' ρ' nx' fr tmps:=by
 intro t v ht
 obtain ⟨u,hu,hr⟩:=h t v ht
 exact ⟨u,hu,hr.mono E⟩
theorem FrRep.monoW {X:Nat→Prop} {w:World} {own:Nat→Prop} {ρ:Nat→Option Nat} {nx:Nat} {w':World} {own':Nat→Prop} {ρ':Nat→Option Nat} {nx':Nat}
 (E:EvoW X w own ρ nx w' own' ρ' nx') {fr:Fr} {tmps:Array Value} (h:FrRep w own ρ nx fr tmps):FrRep w' own' ρ' nx' fr tmps:=by
 intro t v ht
 obtain ⟨u,hu,hr⟩:=h t v ht
 exact ⟨u,hu,hr.monoW E⟩
theorem BRep.monoW {X:Nat→Prop} {w:World} {own:Nat→Prop} {ρ:Nat→Option Nat} {nx:Nat} {w':World} {own':Nat→Prop} {ρ':Nat→Option Nat} {nx':Nat}
 (E:EvoW X w own ρ nx w' own' ρ' nx') {b:Nat} {ab:AB} (hs:w'.heap[b]?=w.heap[b]?) (h:BRep w own ρ nx b ab):BRep w' own' ρ' nx' b ab:=by
 cases h with
 | cells cs c e fz h hz hl hr=>exact .cells cs c e fz (hs.trans h) hz hl fun j a u ha hu=>(hr j a u ha hu).monoW E
 | row wd xs c e fz h hz hl hw hr=>exact .row wd xs c e fz (hs.trans h) hz hl hw fun i x k a u hx ha hu=>(hr i x k a u hx ha hu).monoW E
 | map kvs es clock h hl hk hv=>exact .map kvs es clock (hs.trans h) hl (fun j kv e hj he=>(hk j kv e hj he).monoW E) (fun j kv e hj he=>(hv j kv e hj he).monoW E)
 | loop fr nt L h ht hr=>exact .loop fr nt L (hs.trans h) ht (hr.monoW E)
theorem BRep.mono {X:Nat→Prop} {w:World} {own:Nat→Prop} {ρ:Nat→Option Nat} {nx:Nat} {w':World} {own':Nat→Prop} {ρ':Nat→Option Nat} {nx':Nat}
 (E:Evo X w own ρ nx w' own' ρ' nx') {b:Nat} {ab:AB} (hs:w'.heap[b]?=w.heap[b]?) (h:BRep w own ρ nx b ab):BRep w' own' ρ' nx' b ab:=h.monoW E.weak hs
theorem Reps.nil (w:World) (own:Nat→Prop) (ρ:Nat→Option Nat) (nx:Nat):Reps w own ρ nx [] []:=⟨rfl,fun j a u h=>by simp at h⟩
theorem Reps.cons {w:World} {own:Nat→Prop} {ρ:Nat→Option Nat} {nx:Nat} {a:AV} {v:Value} {as:List AV} {vs:List Value} (h:Rep w own ρ nx a v) (hs:Reps w own ρ nx as vs) :
 Reps w own ρ nx (a::as) (v::vs):=by
 refine ⟨by simp [hs.1],fun j x u hx hu=>?_⟩
 cases j with
 | zero=>simp at hx hu;subst hx;subst hu;exact h
 | succ j=>simp at hx hu;exact hs.2 j x u hx hu
theorem Reps.mono {X:Nat→Prop} {w:World} {own:Nat→Prop} {ρ:Nat→Option Nat} {nx:Nat} {w':World} {own':Nat→Prop} {ρ':Nat→Option Nat} {nx':Nat}
 (E:Evo X w own ρ nx w' own' ρ' nx') {as:List AV} {vs:List Value} (h:Reps w own ρ nx as vs):Reps w' own' ρ' nx' as vs :=
 ⟨h.1,fun j a u ha hu=>(h.2 j a u ha hu).mono E⟩
theorem Rep.cells {w:World} {own:Nat→Prop} {ρ:Nat→Option Nat} {nx:Nat} {a:AV} {v:Value} (h:Rep w own ρ nx a v) (ha:a≠.any) :
 Reps w own ρ nx a.cells v.cells.toList:=by
 have one:∀ (a:AV) (v:Value),a.cells=[a]→v.cells=#[v]→Rep w own ρ nx a v→Reps w own ρ nx a.cells v.cells.toList:=by
  intro a v h1 h2 h3
  rw [h1,h2]
  exact Reps.cons h3 (Reps.nil _ _ _ _)
 cases h with
 | agg cs vs hl h=>exact ⟨by simp [AV.cells,Value.cells,hl],fun j a u ha hu=>h j a u ha (by simpa [Value.cells] using hu)⟩
 | any v=>exact absurd rfl ha
 | int k n=>exact one _ _ rfl rfl (.int k n)
 | bool b=>exact one _ _ rfl rfl (.bool b)
 | str s=>exact one _ _ rfl rfl (.str s)
 | tup cs vs hl h=>exact one _ _ rfl rfl (.tup cs vs hl h)
 | ptr n i wd c b hn hρ=>exact one _ _ rfl rfl (.ptr n i wd c b hn hρ)
 | nilp=>exact one _ _ rfl rfl .nilp
 | sl n wd lo len b cap e sz hn hρ hsh hsz hlen=>exact one _ _ rfl rfl (.sl n wd lo len b cap e sz hn hρ hsh hsz hlen)
 | slv n wd lo a hn hρ=>exact one _ _ rfl rfl (.slv n wd lo a hn hρ)
 | esl=>exact one _ _ rfl rfl .esl
 | isl0 wd a cap=>exact one _ _ rfl rfl (.isl0 wd a cap)
 | isl wd xs b o cap us hlt hb hw hc hr hcap=>exact one _ _ rfl rfl (.isl wd xs b o cap us hlt hb hw hc hr hcap)
 | fsl wd xs a h=>exact one _ _ rfl rfl (.fsl wd xs a h)
 | ip cs c b o us hlt hb hc hr=>exact one _ _ rfl rfl (.ip cs c b o us hlt hb hc hr)
 | imap kvs r es clock hb hh hl hk hv=>exact one _ _ rfl rfl (.imap kvs r es clock hb hh hl hk hv)
 | mp n b hn hρ=>exact one _ _ rfl rfl (.mp n b hn hρ)
 | fn f first cap vs us hl hm h h'=>exact one _ _ rfl rfl (.fn f first cap vs us hl hm h h')
 | yld n b hn hρ=>exact one _ _ rfl rfl (.yld n b hn hρ)
 | nilf=>exact one _ _ rfl rfl .nilf
end
section
theorem ZdI {α:Type} (l:List (Nat × α)) (n:Nat) (v:α):lk (upd l n v) n=some v:=by
 simp [upd,lk]
theorem Ze1 {α:Type} (l:List (Nat × α)) (n:Nat):lk (del l n) n=none:=by
 induction l with
 | nil=>rfl
 | cons p r ih =>
   obtain ⟨i,x⟩:=p
   simp only [del]
   by_cases h:Nat.beq i n=true
   ·simp [h,ih]
   ·simp only [h,cond_false]
    simp [lk,h,ih]
theorem ZlH {α:Type} (l:List (Nat × α)) {n m:Nat} (hne:m≠n):lk (del l n) m=lk l m:=by
 induction l with
 | nil=>rfl
 | cons p r ih =>
   obtain ⟨i,x⟩:=p
   simp only [del]
   by_cases h:Nat.beq i n=true
   ·have hi:i=n:=Nat.eq_of_beq_eq_true h
    have h2:Nat.beq i m=false:=by
     cases hb:Nat.beq i m with
     | false=>rfl
     | true=>exact absurd ((Nat.eq_of_beq_eq_true hb).symm.trans hi) hne
    simp [h,ih,lk,h2]
   ·simp only [h,cond_false,lk,ih]
theorem Zbl {α:Type} (l:List (Nat × α)) {n m:Nat} (v:α) (hne:m≠n):lk (upd l n v) m=lk l m:=by
 have h2:Nat.beq n m=false:=by
  cases hb:Nat.beq n m with
  | false=>rfl
  | true=>exact absurd (Nat.eq_of_beq_eq_true hb).symm hne
 simp [upd,lk,h2,ZlH l hne]
theorem ZaA {α:Type} (l:List (Nat × α)) (n:Nat) (v:α):lk ((n,v)::l) n=some v:=by
 simp [lk]
theorem Zas {α:Type} (l:List (Nat × α)) {n m:Nat} (v:α) (hne:m≠n):lk ((n,v)::l) m=lk l m:=by
 have h2:Nat.beq n m=false:=by
  cases hb:Nat.beq n m with
  | false=>rfl
  | true=>exact absurd (Nat.eq_of_beq_eq_true hb).symm hne
 simp [lk,h2]
def Za6 (ρ:Nat→Option Nat) (n b:Nat):Nat→Option Nat:=fun m=>if m=n then some b else ρ m
theorem Za0 (ρ:Nat→Option Nat) (n b:Nat):Za6 ρ n b n=some b:=by simp [Za6]
theorem ZbN (ρ:Nat→Option Nat) (b:Nat) {n m:Nat} (h:m≠n):Za6 ρ n b m=ρ m:=by simp [Za6,h]
theorem HRep.ownlt {X:Nat→Prop} {w:World} {ρ:Nat→Option Nat} {nx:Nat} {hp:Hp} (H:HRep X w ρ nx hp) {b:Nat} (h:Own X ρ hp b):b<w.heap.size:=by
 rcases h with hx|⟨n,ab,hn,hb⟩
 ·exact H.xlt b hx
 rcases H.blk n ab hn with ⟨b',hb',hr⟩|⟨h0,_⟩
 ·obtain rfl:b'=b:=Option.some.inj (hb'.symm.trans hb)
  cases hr with
  | cells cs c e fz h _ _ _=>exact Za2 h
  | row wd xs c e fz h _ _ _ _=>exact Za2 h
  | map kvs es clock h _ _ _=>exact Za2 h
  | loop fr nt L h _ _=>exact Za2 h
 ·rw [hb] at h0;cases h0
theorem Zs1 {X:Nat→Prop} {w:World} {ρ:Nat→Option Nat} {nx:Nat} {hp:Hp} (H:HRep X w ρ nx hp) (ab:AB) (b:Nat) :
 Own X (Za6 ρ nx w.heap.size) ((nx,ab)::hp) b↔Own X ρ hp b∨b=w.heap.size:=by
 constructor
 ·rintro (hx|⟨n,ab',hn,hb⟩)
  ·exact .inl (.inl hx)
  by_cases h:n=nx
  ·subst h;rw [Za0] at hb;exact .inr (Option.some.inj hb).symm
  ·rw [Zas _ _ h] at hn;rw [ZbN _ _ h] at hb;exact .inl (.inr ⟨n,ab',hn,hb⟩)
 ·rintro ((hx|⟨n,ab',hn,hb⟩)|rfl)
  ·exact .inl hx
  ·have h:n≠nx:=Nat.ne_of_lt (H.lt n ab' hn)
   exact .inr ⟨n,ab',by rw [Zas _ _ h];exact hn,by rw [ZbN _ _ h];exact hb⟩
  ·exact .inr ⟨nx,ab,ZaA _ _ _,Za0 _ _ _⟩
theorem ZaM {w:World} {o:Obj} {b:Nat} (h:b<w.heap.size):(w.alloc o).heap[b]?=w.heap[b]?:=by
 simp only [World.alloc,Array.getElem?_push]
 rw [if_neg (Nat.ne_of_lt h)]
theorem ZaP (w:World) (o:Obj):(w.alloc o).heap[w.heap.size]?=some o:=by
 simp only [World.alloc,Array.getElem?_push]
 simp
theorem Zbt {w w':World} {b:Nat} (h:w'.heap[b]?=w.heap[b]?):w'.shape? b=w.shape? b:=by
 simp only [World.shape?,h]
theorem Zdw {w:World} {b:Nat} {x:TypeId × Nat} (h:w.shape? b=some x):b<w.heap.size:=by
 unfold World.shape? at h
 split at h
 ·rename_i hb;exact Za2 hb
 ·cases h
theorem Evo.alloc {X:Nat→Prop} {w:World} {ρ:Nat→Option Nat} {nx:Nat} {hp:Hp} (H:HRep X w ρ nx hp) (o:Obj) (ab:AB) :
 Evo X w (Own X ρ hp) ρ nx (w.alloc o) (Own X (Za6 ρ nx w.heap.size) ((nx,ab)::hp)) (Za6 ρ nx w.heap.size) (nx+1) where
 names n hn:=ZbN _ _ (Nat.ne_of_lt hn)
 nx:=Nat.le_succ _
 same b hb _:=ZaM hb
 xsame b hb:=ZaM (H.xlt b hb)
 owns b hb h:=by
  rcases (Zs1 H ab b).1 h with h|h
  ·exact h
  ·omega
 size:=by simp
 shape b e k h:=(Zbt (ZaM (Zdw h))).trans h
theorem HRep.alloc {X:Nat→Prop} {w:World} {ρ:Nat→Option Nat} {nx:Nat} {hp:Hp} (H:HRep X w ρ nx hp) (o:Obj) (ab:AB)
 (hb:BRep (w.alloc o) (Own X (Za6 ρ nx w.heap.size) ((nx,ab)::hp)) (Za6 ρ nx w.heap.size) (nx+1) w.heap.size ab) :
 HRep X (w.alloc o) (Za6 ρ nx w.heap.size) (nx+1) ((nx,ab)::hp) where
 lt n ab' hn:=by
  by_cases h:n=nx
  ·omega
  ·rw [Zas _ _ h] at hn;have:=H.lt n ab' hn;omega
 blk n ab' hn:=by
  by_cases h:n=nx
  ·subst h
   rw [ZaA] at hn
   obtain rfl:=Option.some.inj hn
   exact .inl ⟨_,Za0 _ _ _,hb⟩
  ·rw [Zas _ _ h] at hn
   rw [ZbN _ _ h]
   rcases H.blk n ab' hn with ⟨b,hρ,hr⟩|h0
   ·exact .inl ⟨b,hρ,hr.mono (Evo.alloc H o ab) (ZaM (H.ownlt (.inr ⟨n,ab',hn,hρ⟩)))⟩
   ·exact .inr h0
 xlt b hx:=Nat.lt_of_lt_of_le (H.xlt b hx) (by simp)
 disj n ab' b hn hb hx:=by
  by_cases h:n=nx
  ·subst h;rw [Za0] at hb;have:=H.xlt b hx;have:=Option.some.inj hb;omega
  ·rw [Zas _ _ h] at hn;rw [ZbN _ _ h] at hb;exact H.disj n ab' b hn hb hx
 inj n m a1 a2 b h1 h2 h3 h4:=by
  by_cases hn:n=nx<;>by_cases hm:m=nx
  ·omega
  ·subst hn
   rw [Za0] at h3
   rw [Zas _ _ hm] at h2
   rw [ZbN _ _ hm] at h4
   have:=H.ownlt (.inr ⟨m,a2,h2,h4⟩)
   have:=Option.some.inj h3
   omega
  ·subst hm
   rw [Za0] at h4
   rw [Zas _ _ hn] at h1
   rw [ZbN _ _ hn] at h3
   have:=H.ownlt (.inr ⟨n,a1,h1,h3⟩)
   have:=Option.some.inj h4
   omega
  ·rw [Zas _ _ hn] at h1
   rw [ZbN _ _ hn] at h3
   rw [Zas _ _ hm] at h2
   rw [ZbN _ _ hm] at h4
   exact H.inj n m a1 a2 b h1 h2 h3 h4
structure Wrote (w:World) (b:Nat) (w':World):Prop where
 size:w'.heap.size=w.heap.size
 same:∀ i,i≠b→w'.heap[i]?=w.heap[i]?
 shape:w'.shape? b=w.shape? b
 os:w'.os=w.os
 out:w'.output=w.output
theorem ZfY {X:Nat→Prop} {ρ:Nat→Option Nat} {hp:Hp} {n:Nat} {ab ab':AB} (hn:lk hp n=some ab) (x:Nat):Own X ρ (upd hp n ab') x↔Own X ρ hp x:=by
 constructor
 ·rintro (hx|⟨m,a,hm,hb⟩)
  ·exact .inl hx
  by_cases h:m=n
  ·subst h;exact .inr ⟨m,ab,hn,hb⟩
  ·rw [Zbl _ _ h] at hm;exact .inr ⟨m,a,hm,hb⟩
 ·rintro (hx|⟨m,a,hm,hb⟩)
  ·exact .inl hx
  by_cases h:m=n
  ·subst h;exact .inr ⟨m,ab',ZdI _ _ _,hb⟩
  ·exact .inr ⟨m,a,by rw [Zbl _ _ h];exact hm,hb⟩
theorem Evo.write {X:Nat→Prop} {w w':World} {ρ:Nat→Option Nat} {nx:Nat} {hp:Hp} (H:HRep X w ρ nx hp) {n b:Nat} {ab:AB} (ab':AB) (hn:lk hp n=some ab) (hb:ρ n=some b) (W:Wrote w b w') :
 Evo X w (Own X ρ hp) ρ nx w' (Own X ρ (upd hp n ab')) ρ nx where
 names _ _:=rfl
 nx:=Nat.le_refl _
 same i _ hi:=W.same i (fun h=>hi (h ▸ .inr ⟨n,ab,hn,hb⟩))
 xsame i hi:=W.same i (fun h=>H.disj n ab b hn hb (h ▸ hi))
 owns i _ hi:=(ZfY hn i).1 hi
 size:=Nat.le_of_eq W.size.symm
 shape i e k h:=by
  by_cases hi:i=b
  ·subst hi;rw [W.shape];exact h
  ·exact (Zbt (W.same i hi)).trans h
theorem HRep.write {X:Nat→Prop} {w w':World} {ρ:Nat→Option Nat} {nx:Nat} {hp:Hp} (H:HRep X w ρ nx hp) {n b:Nat} {ab ab':AB} (hn:lk hp n=some ab) (hb:ρ n=some b) (W:Wrote w b w')
 (hr:BRep w' (Own X ρ (upd hp n ab')) ρ nx b ab'):HRep X w' ρ nx (upd hp n ab') where
 lt m a hm:=by
  by_cases h:m=n
  ·subst h;exact H.lt m ab hn
  ·rw [Zbl _ _ h] at hm;exact H.lt m a hm
 blk m a hm:=by
  by_cases h:m=n
  ·subst h
   rw [ZdI] at hm
   obtain rfl:=Option.some.inj hm
   exact .inl ⟨b,hb,hr⟩
  ·rw [Zbl _ _ h] at hm
   rcases H.blk m a hm with ⟨b',hρ,hr'⟩|h0
   ·refine .inl ⟨b',hρ,hr'.mono (Evo.write H ab' hn hb W) (W.same b' fun e=>h (H.inj m n a ab b' hm hn hρ (e ▸ hb)))⟩
   ·exact .inr h0
 xlt b hx:=by rw [W.size];exact H.xlt b hx
 disj m a x hm hx:=by
  by_cases h:m=n
  ·subst h;exact H.disj m ab x hn hx
  ·rw [Zbl _ _ h] at hm;exact H.disj m a x hm hx
 inj i j a1 a2 x h1 h2 h3 h4:=by
  have f:∀ i a1,lk (upd hp n ab') i=some a1→∃ a,lk hp i=some a:=by
   intro i a1 h1
   by_cases h:i=n
   ·subst h;exact ⟨ab,hn⟩
   ·rw [Zbl _ _ h] at h1;exact ⟨a1,h1⟩
  obtain ⟨c1,e1⟩:=f i a1 h1
  obtain ⟨c2,e2⟩:=f j a2 h2
  exact H.inj i j c1 c2 x e1 e2 h3 h4
theorem Evo.drop {X:Nat→Prop} {w:World} {ρ:Nat→Option Nat} {nx:Nat} {hp hp':Hp} (h:∀ b,Own X ρ hp' b→Own X ρ hp b):Evo X w (Own X ρ hp) ρ nx w (Own X ρ hp') ρ nx where
 names _ _:=rfl
 nx:=Nat.le_refl _
 same _ _ _:=rfl
 xsame _ _:=rfl
 owns b _:=h b
 size:=Nat.le_refl _
 shape _ _ _ h:=h
theorem Evo.refl (X:Nat→Prop) (w:World) (own:Nat→Prop) (ρ:Nat→Option Nat) (nx:Nat):Evo X w own ρ nx w own ρ nx :=
 ⟨fun _ _=>rfl,Nat.le_refl _,fun _ _ _=>rfl,fun _ _=>rfl,fun _ _ h=>h,Nat.le_refl _,fun _ _ _ h=>h⟩
theorem Evo.draw (X:Nat→Prop) (w:World) (own:Nat→Prop) (ρ:Nat→Option Nat) (nx k:Nat):Evo X w own ρ nx { w with drawn:=k } own ρ nx :=
 ⟨fun _ _=>rfl,Nat.le_refl _,fun _ _ _=>rfl,fun _ _=>rfl,fun _ _ h=>h,Nat.le_refl _,fun _ _ _ h=>h⟩
theorem HRep.draw {X:Nat→Prop} {w:World} {ρ:Nat→Option Nat} {nx:Nat} {hp:Hp} (H:HRep X w ρ nx hp) (k:Nat):HRep X { w with drawn:=k } ρ nx hp where
 lt:=H.lt
 blk n ab hn:=by
  rcases H.blk n ab hn with ⟨b,hρ,hr⟩|h0
  ·exact .inl ⟨b,hρ,hr.mono (Evo.draw X w _ ρ nx k) rfl⟩
  ·exact .inr h0
 xlt:=H.xlt
 disj:=H.disj
 inj:=H.inj
end
section
theorem Znt {w:World} {own:Nat→Prop} {ρ:Nat→Option Nat} {nx:Nat} {v:Value} {a:AV} (h:ofSc v=some a):Rep w own ρ nx a v:=by
 unfold ofSc at h
 split at h<;>first|(cases h;done)|skip
 all_goals obtain rfl:=Option.some.inj h
 ·exact .int _ _
 ·exact .bool _
 ·exact .str _
 ·exact .nilp
 ·exact .esl
 ·exact .nilf
 ·exact .any _
theorem Zi7 {w:World} {own:Nat→Prop} {ρ:Nat→Option Nat} {nx:Nat}:∀ {l:List Value} {as:List AV},ZrD l=some as→Reps w own ρ nx as l
 | [],as,h=>by simp [ZrD] at h;subst h;exact .nil _ _ _ _
 | v::r,as,h=>by
   simp only [ZrD] at h
   split at h
   ·rename_i a ha
    split at h
    ·rename_i l hl
     obtain rfl:=Option.some.inj h
     exact .cons (Znt ha) (Zi7 hl)
    ·cases h
   ·cases h
theorem Reps.toAgg {w:World} {own:Nat→Prop} {ρ:Nat→Option Nat} {nx:Nat} {as:List AV} {vs:Array Value} (h:Reps w own ρ nx as vs.toList):Rep w own ρ nx (.agg as) (.agg vs) :=
 .agg as vs (by have:=h.1;simp at this;exact this.symm) fun j a u ha hu=>h.2 j a u ha (by simpa using hu)
theorem ZcD {w:World} {own:Nat→Prop} {ρ:Nat→Option Nat} {nx:Nat} {v:Value} {a:AV} (h:Zio v=some a):Rep w own ρ nx a v:=by
 unfold Zio at h
 split at h
 ·split at h
  ·rename_i l hl
   obtain rfl:=Option.some.inj h
   exact (Zi7 hl).toAgg
  ·cases h
 ·exact Znt h
def Zca (hp:Hp) (nx:Nat) (set:List (Nat × Option AB)):Option AB→Hp
 | none=>Zba hp set
 | some ab=>(nx,ab)::Zba hp set
def Zcd (nx:Nat):Option AB→Nat
 | none=>nx
 | some _=>nx+1
def OpOK (X:Nat→Prop) (w:World) (ρ:Nat→Option Nat) (nx:Nat) (hp:Hp) (r:Result Next) (set:List (Nat × Option AB)) (new:Option AB) (val:Nat→AV):Prop :=
 ∃ (u:Value) (w':World) (ρ':Nat→Option Nat),(r=.ok (.value u) w'∨(r=.ok .skip w'∧u=undef)) ∧
   Rep w' (Own X ρ' (Zca hp nx set new)) ρ' (Zcd nx new) (val nx) u∧HRep X w' ρ' (Zcd nx new) (Zca hp nx set new) ∧
   Evo X w (Own X ρ hp) ρ nx w' (Own X ρ' (Zca hp nx set new)) ρ' (Zcd nx new)∧w'.os=w.os∧w'.output=w.output
section
variable {X:Nat→Prop} {P:Program} {w:World} {ρ:Nat→Option Nat} {nx:Nat} {hp:Hp}
theorem ZaZ (H:HRep X w ρ nx hp) {r:Result Next} {u:Value} {v:AV} (hr:r=.ok (.value u) w) (h:Rep w (Own X ρ hp) ρ nx v u):OpOK X w ρ nx hp r [] none (fun _=>v) :=
 ⟨u,w,ρ,.inl hr,h,H,Evo.refl _ _ _ _ _,rfl,rfl⟩
theorem Zes (H:HRep X w ρ nx hp) {r:Result Next} {u:Value} {o:Obj} {ab:AB} {val:Nat→AV} (hr:r=.ok (.value u) (w.alloc o))
 (hb:BRep (w.alloc o) (Own X (Za6 ρ nx w.heap.size) ((nx,ab)::hp)) (Za6 ρ nx w.heap.size) (nx+1) w.heap.size ab)
 (h:Rep (w.alloc o) (Own X (Za6 ρ nx w.heap.size) ((nx,ab)::hp)) (Za6 ρ nx w.heap.size) (nx+1) (val nx) u):OpOK X w ρ nx hp r [] (some ab) val :=
 ⟨u,w.alloc o,Za6 ρ nx w.heap.size,.inl hr,h,H.alloc o ab hb,Evo.alloc H o ab,rfl,rfl⟩
theorem Zf1 (H:HRep X w ρ nx hp) {r:Result Next} {n b:Nat} {ab ab':AB} {w':World} (hr:r=.ok .skip w') (hn:lk hp n=some ab) (hb:ρ n=some b) (W:Wrote w b w')
 (hr':BRep w' (Own X ρ (upd hp n ab')) ρ nx b ab'):OpOK X w ρ nx hp r [(n,some ab')] none (fun _=>.tup []) :=
 ⟨undef,w',ρ,.inr ⟨hr,rfl⟩,.tup [] #[] rfl (fun j a u h=>by simp at h),H.write hn hb W hr',Evo.write H ab' hn hb W,W.os,W.out⟩
theorem Rep.scalar {own:Nat→Prop} {a:AV} {v:Value} (h:Rep w own ρ nx a v) (ha:Zm2 a=true):v.oneCell'=true:=by
 cases h<;>first|rfl|(simp [Zm2] at ha)
theorem Zdr {l:List AV} (h:ZaO l=true) {j:Nat} {a:AV} (ha:l[j]?=some a):Zm2 a=true:=by
 induction l generalizing j with
 | nil=>simp at ha
 | cons v r ih =>
   simp only [ZaO,Bool.and_eq_true] at h
   cases j with
   | zero=>simp at ha;subst ha;exact h.1
   | succ j=>simp at ha;exact ih h.2 ha
theorem Zbk {α:Type} (l:List α):Za7 l=l.length:=by
 induction l with
 | nil=>rfl
 | cons x r ih=>simp [Za7,ih]
theorem ZaW {t:TypeId} {n:Nat} (h:Zc3 P t=some n):(sizeOf t).run P w=.ok n w∧(P.info? t).map (·.size)=some n:=by
 unfold Zc3 at h
 split at h
 ·rename_i i hi
  obtain rfl:=Option.some.inj h
  simp [sizeOf,typeInfo,hi]
 ·cases h
theorem ZdC {t:TypeId} {b:Bool} (h:Zcj P t=some b):(isAgg t).run P w=.ok b w:=by
 unfold Zcj at h
 split at h
 ·rename_i hu;obtain rfl:=Option.some.inj h;simp [isAgg,run_underlying hu]
 ·rename_i hu;obtain rfl:=Option.some.inj h;simp [isAgg,run_underlying hu]
 ·rename_i d h1 h2 hu
  obtain rfl:=Option.some.inj h
  unfold isAgg
  rw [Sem.run_bind,run_underlying hu]
  cases d<;>simp at *
 ·cases h
theorem Zhb:∀ {cs:List AV} {n:Nat} {l:List AV},ZtE cs n=some l→l.length=n∧∀ j,j<n→cs[j]?=l[j]?
 | [],0,l,h=>by simp [ZtE] at h;subst h;exact ⟨rfl,fun j hj=>by omega⟩
 | _::_,0,l,h=>by simp [ZtE] at h;subst h;exact ⟨rfl,fun j hj=>by omega⟩
 | c::cs,n+1,l,h=>by
   simp only [ZtE] at h
   split at h
   ·rename_i l' hl
    obtain rfl:=Option.some.inj h
    obtain ⟨h1,h2⟩:=Zhb hl
    refine ⟨by simp [h1],fun j hj=>?_⟩
    cases j with
    | zero=>simp
    | succ j=>have:=h2 j (by omega);simpa using this
   ·cases h
 | [],n+1,l,h=>by simp [ZtE] at h
theorem Zex:∀ {cs:List AV} {c n:Nat} {l:List AV},cut cs c n=some l→l.length=n∧∀ j,j<n→cs[c+j]?=l[j]?
 | cs,0,n,l,h=>by
   have h':ZtE cs n=some l:=by cases cs<;>exact h
   obtain ⟨h1,h2⟩:=Zhb h'
   exact ⟨h1,fun j hj=>by rw [Nat.zero_add];exact h2 j hj⟩
 | [],i+1,n,l,h=>by
   obtain ⟨h1,h2⟩:=Zhb (show ZtE [] n=some l from h)
   refine ⟨h1,fun j hj=>?_⟩
   have:=h2 j hj
   simpa using this
 | _::cs,i+1,n,l,h=>by
   obtain ⟨h1,h2⟩:=Zex (show cut cs i n=some l from h)
   refine ⟨h1,fun j hj=>?_⟩
   have:=h2 j hj
   rw [show i+1+j=(i+j)+1 by omega]
   simpa using this
theorem Zbc (b o n:Nat):(⟨b,o,none⟩:Addr).add n=⟨b,o+n,none⟩:=by
 unfold Addr.add;split<;>simp_all
theorem Zg7 {own:Nat→Prop} {t:TypeId} {cs:List AV} {c b o:Nat} {v:AV} {us:Nat→Value} (h:Zea P t cs c=some v)
 (hc:∀ (j:Nat) (a:AV),cs[j]?=some a→w.cell? ⟨b,o+j,none⟩=some (us j)) (hr:∀ (j:Nat) (a:AV),cs[j]?=some a→Rep w own ρ nx a (us j)) :
 ∃ u,(loadVar t ⟨b,o+c,none⟩).run P w=.ok u w∧Rep w own ρ nx v u:=by
 unfold Zea at h
 split at h
 ·rename_i i ha hi
  split at h
  ·rename_i l hl
   obtain rfl:=Option.some.inj h
   obtain ⟨h1,h2⟩:=Zex hl
   have hload:=run_loadCells (P:=P) (w:=w) ⟨b,o+c,none⟩ i.size (fun j=>us (c+j)) (fun j hj=>by
    rw [Zbc,show o+c+j=o+(c+j) by omega]
    have hj':j<l.length:=by omega
    have:=h2 j hj
    rw [List.getElem?_eq_getElem hj'] at this
    exact hc _ _ this)
   refine ⟨_,by simp only [loadVar,Sem.run_bind,ZdC (w:=w) ha,Result.andThen_ok,if_true,(ZaW (P:=P) (w:=w) (t:=t) (n:=i.size) (by simp [Zc3,hi])).1,hload,Sem.run_pure];exact rfl,?_⟩
   refine .agg l _ (by simp [h1]) fun j a u ha' hu=>?_
   have hj:j<l.length:=by
    rcases Nat.lt_or_ge j l.length with h'|h'
    ·exact h'
    ·simp [List.getElem?_eq_none h'] at ha'
   have hu':us (c+j)=u:=by
    have hjs:j<i.size:=by omega
    simpa [hjs] using hu
   rw [← hu']
   exact hr _ a (by rw [h2 j (by omega)];exact ha')
  ·cases h
 ·rename_i i ha hi
  split at h
  ·rename_i v' hl
   obtain rfl:=Option.some.inj h
   obtain ⟨h1,h2⟩:=Zex hl
   have h0:cs[c]?=some v':=by have:=h2 0 (by omega);simpa using this
   refine ⟨us c,?_,hr _ _ h0⟩
   simp only [loadVar,Sem.run_bind,ZdC (w:=w) ha,Result.andThen_ok,Bool.false_eq_true,if_false]
   simp [hc _ _ h0]
  ·cases h
 ·cases h
end
end
end Go.Proofs.YtncoiadeipbonaaGreat.Ab
