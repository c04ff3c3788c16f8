/-
  ABSTRACT EVALUATOR, part 2: what abstract values and blocks say of the machine's, and that this outlives whatever leaves the memory that is read alone.
-/
import Derived.Test.YtiogdhpjfbenpaaAb1
import Derived.WalkKit
import Derived.RowKit3
namespace Go.Proofs.Ytiogdhpjfbenpaa.Ab
set_option linter.unusedVariables false
set_option linter.unusedSimpArgs false

section rep
variable (w : World) (own : Nat → Prop) (ρ : Nat → Option Nat) (nx : Nat)

/-- the value v reads as a: in memory that nobody owns ('own': the walk's own blocks), or by the names of blocks ('ρ'; all below 'nx') -/
inductive Rep : AV → Value → Prop
  | int (k : IntKind) (n : Int) : Rep (.int k n) (.int k n)
  | bool (b : Bool) : Rep (.bool b) (.bool b)
  | str (s : ByteArray) : Rep (.str s) (.string s)
  | agg (cs : List AV) (vs : Array Value) (hl : vs.size = cs.length) (h : ∀ (j : Nat) (a : AV) (u : Value), cs[j]? = some a → vs[j]? = some u → Rep a u) : Rep (.agg cs) (.agg vs)
  | tup (cs : List AV) (vs : Array Value) (hl : vs.size = cs.length) (h : ∀ (j : Nat) (a : AV) (u : Value), cs[j]? = some a → vs[j]? = some u → Rep a u) : Rep (.tup cs) (.tuple vs)
  | ptr (n i wd c b : Nat) (hn : n < nx) (hρ : ρ n = some b) : Rep (.ptr n i wd c) (.pointer (some ⟨b, i * wd + c, none⟩))
  | nilp : Rep .nilp (.pointer none)
  | sl (n wd lo len b cap : Nat) (e : TypeId) (sz : Nat) (hn : n < nx) (hρ : ρ n = some b) (hsh : w.shape? b = some (e, sz)) (hsz : lo * wd + cap * wd ≤ sz) (hlen : len ≤ cap) :
      Rep (.sl n wd lo len) (.slice (some ⟨b, lo * wd, none⟩) len cap)
  | slv (n wd lo : Nat) (a : Option Addr) (hn : n < nx) (hρ : ρ n = none) : Rep (.sl n wd lo 0) (.slice a 0 0)
  | esl : Rep .esl (.slice none 0 0)
  | isl0 (wd : Nat) (a : Option Addr) (cap : Nat) : Rep (.isl wd []) (.slice a 0 cap)
  | isl (wd : Nat) (xs : List AV) (b o cap : Nat) (us : Nat → Nat → Value) (hlt : b < w.heap.size) (hb : ¬ own b) (hw : ∀ x ∈ xs, x.cells.length = wd)
      (hc : ∀ (i : Nat) (x : AV) (c : Nat) (a : AV), xs[i]? = some x → x.cells[c]? = some a → w.cell? ⟨b, o + (i * wd + c), none⟩ = some (us i c))
      (hr : ∀ (i : Nat) (x : AV) (c : Nat) (a : AV), xs[i]? = some x → x.cells[c]? = some a → Rep a (us i c)) (hcap : xs.length ≤ cap) :
      Rep (.isl wd xs) (.slice (some ⟨b, o, none⟩) xs.length cap)
  | ip (cs : List AV) (c b o : Nat) (us : Nat → Value) (hlt : b < w.heap.size) (hb : ¬ own b) (hc : ∀ (j : Nat) (a : AV), cs[j]? = some a → w.cell? ⟨b, o + j, none⟩ = some (us j))
      (hr : ∀ (j : Nat) (a : AV), cs[j]? = some a → Rep a (us j)) : Rep (.ip cs c) (.pointer (some ⟨b, o + c, none⟩))
  | imap (kvs : List (AV × AV)) (r : Nat) (es : Array MapEntry) (clock : Nat) (hb : ¬ own r) (hh : w.heap[r]? = some (.map es clock)) (hl : es.size = kvs.length)
      (hk : ∀ (j : Nat) (kv : AV × AV) (e : MapEntry), kvs[j]? = some kv → es[j]? = some e → Rep kv.1 e.key)
      (hv : ∀ (j : Nat) (kv : AV × AV) (e : MapEntry), kvs[j]? = some kv → es[j]? = some e → Rep kv.2 e.val) : Rep (.imap kvs) (.map (some r))
  | mp (n b : Nat) (hn : n < nx) (hρ : ρ n = some b) : Rep (.mp n) (.map (some b))
  | fn (f : Fn) (first cap : List AV) (vs us : Array Value) (hl : vs.size = first.length) (hm : us.size = cap.length)
      (h : ∀ (j : Nat) (a : AV) (u : Value), first[j]? = some a → vs[j]? = some u → Rep a u)
      (h' : ∀ (j : Nat) (a : AV) (u : Value), cap[j]? = some a → us[j]? = some u → Rep a u) : Rep (.fn f first cap) (.func f vs us)
  | yld (n b : Nat) (hn : n < nx) (hρ : ρ n = some b) : Rep (.yld n) (.func (.yield b) #[] #[])
  | nilf : Rep .nilf .nilFunc
  | any (v : Value) : Rep .any v

/-- lists of values -/
def Reps (as : List AV) (vs : List Value) : Prop := as.length = vs.length ∧ ∀ (j : Nat) (a : AV) (u : Value), as[j]? = some a → vs[j]? = some u → Rep w own ρ nx a u

/-- a slot's values, of a frame -/
def FrRep (fr : Fr) (tmps : Array Value) : Prop := ∀ (t : Nat) (v : AV), lk fr t = some v → ∃ u, tmps[t]? = some u ∧ Rep w own ρ nx v u

/-- what an owned block holds -/
inductive BRep (b : Nat) : AB → Prop
  | cells (cs : List AV) (c : Array Value) (e : TypeId) (fz : Nat × Nat) (h : w.heap[b]? = some (.cells c e fz)) (hz : fz.2 ≤ fz.1) (hl : c.size = cs.length)
      (hr : ∀ (j : Nat) (a : AV) (u : Value), cs[j]? = some a → c[j]? = some u → Rep w own ρ nx a u) : BRep b (.cells cs)
  | row (wd : Nat) (xs : List AV) (c : Array Value) (e : TypeId) (fz : Nat × Nat) (h : w.heap[b]? = some (.cells c e fz)) (hz : fz.2 ≤ fz.1) (hl : xs.length * wd ≤ c.size)
      (hw : ∀ x ∈ xs, x.cells.length = wd)
      (hr : ∀ (i : Nat) (x : AV) (k : Nat) (a : AV) (u : Value), xs[i]? = some x → x.cells[k]? = some a → c[i * wd + k]? = some u → Rep w own ρ nx a u) : BRep b (.row wd xs)
  | map (kvs : List (AV × AV)) (es : Array MapEntry) (clock : Nat) (h : w.heap[b]? = some (.map es clock)) (hl : es.size = kvs.length)
      (hk : ∀ (j : Nat) (kv : AV × AV) (e : MapEntry), kvs[j]? = some kv → es[j]? = some e → Rep w own ρ nx kv.1 e.key)
      (hv : ∀ (j : Nat) (kv : AV × AV) (e : MapEntry), kvs[j]? = some kv → es[j]? = some e → Rep w own ρ nx kv.2 e.val) : BRep b (.map kvs)
  | loop (fr : Fr) (nt : Nat) (L : Loop) (h : w.heap[b]? = some (.loop L)) (ht : L.tmps.size = nt) (hr : FrRep w own ρ nx fr L.tmps) : BRep b (.loop fr nt L.params L.assign L.body L.state L.pending)

end rep

/-- the blocks that are not to be leant on: those that a heap of names owns, and X, which callers own -/
def Own (X : Nat → Prop) (ρ : Nat → Option Nat) (hp : Hp) (b : Nat) : Prop := X b ∨ ∃ n ab, lk hp n = some ab ∧ ρ n = some b

/-- the named blocks -/
structure HRep X (w : World) (ρ : Nat → Option Nat) (nx : Nat) (hp : Hp) : Prop where
  lt : ∀ n ab, lk hp n = some ab → n < nx
  blk : ∀ n ab, lk hp n = some ab → (∃ b, ρ n = some b ∧ BRep w (Own X ρ hp) ρ nx b ab) ∨ (ρ n = none ∧ ∃ wd, ab = .row wd [])
  xlt : ∀ b, X b → b < w.heap.size
  disj : ∀ n ab b, lk hp n = some ab → ρ n = some b → ¬ X b
  inj : ∀ n m ab ab' b, lk hp n = some ab → lk hp m = some ab' → ρ n = some b → ρ m = some b → n = m

/-- the memory has moved on, and left alone what nobody owned -/
structure Evo (X : Nat → Prop) (w : World) (own : Nat → Prop) (ρ : Nat → Option Nat) (nx : Nat) (w' : World) (own' : Nat → Prop) (ρ' : Nat → Option Nat) (nx' : Nat) : Prop where
  names : ∀ n, n < nx → ρ' n = ρ n
  nx : nx ≤ nx'
  same : ∀ b, b < w.heap.size → ¬ own b → w'.heap[b]? = w.heap[b]?
  xsame : ∀ b, X b → w'.heap[b]? = w.heap[b]?
  owns : ∀ b, b < w.heap.size → own' b → own b
  size : w.heap.size ≤ w'.heap.size
  shape : ∀ b e k, w.shape? b = some (e, k) → w'.shape? b = some (e, k)

/-- the same, but that blocks of deferred calls may turn -/
structure EvoW (X : Nat → Prop) (w : World) (own : Nat → Prop) (ρ : Nat → Option Nat) (nx : Nat) (w' : World) (own' : Nat → Prop) (ρ' : Nat → Option Nat) (nx' : Nat) : Prop where
  names : ∀ n, n < nx → ρ' n = ρ n
  nx : nx ≤ nx'
  same : ∀ b, b < w.heap.size → ¬ own b → w'.heap[b]? = w.heap[b]? ∨ ∃ d, w.heap[b]? = some (.deferred d)
  owns : ∀ b, b < w.heap.size → own' b → own b
  size : w.heap.size ≤ w'.heap.size
  shape : ∀ b e k, w.shape? b = some (e, k) → w'.shape? b = some (e, k)

theorem Evo.weak {X : Nat → Prop} {w : World} {own : Nat → Prop} {ρ : Nat → Option Nat} {nx : Nat} {w' : World} {own' : Nat → Prop} {ρ' : Nat → Option Nat} {nx' : Nat} (E : Evo X w own ρ nx w' own' ρ' nx') :
    EvoW X w own ρ nx w' own' ρ' nx' := ⟨E.names, E.nx, fun b h1 h2 => .inl (E.same b h1 h2), E.owns, E.size, E.shape⟩

theorem lt_of_heap {w : World} {b : Nat} {o : Obj} (h : w.heap[b]? = some o) : b < w.heap.size := by
  rcases Nat.lt_or_ge b w.heap.size with h' | h'
  · exact h'
  · simp [Array.getElem?_eq_none h'] at h

theorem cell?_same {w w' : World} {b o : Nat} {u : Value} (h : w.cell? ⟨b, o, none⟩ = some u) (hs : w'.heap[b]? = w.heap[b]?) : w'.cell? ⟨b, o, none⟩ = some u := by
  simp only [World.cell?] at h ⊢
  rw [hs]; exact h

theorem cell?_weak {w w' : World} {b o : Nat} {u : Value} (h : w.cell? ⟨b, o, none⟩ = some u) (hs : w'.heap[b]? = w.heap[b]? ∨ ∃ d, w.heap[b]? = some (.deferred d)) : w'.cell? ⟨b, o, none⟩ = some u := by
  rcases hs with hs | ⟨d, hd⟩
  · exact cell?_same h hs
  · simp [World.cell?, hd] at h

theorem Rep.monoW {X : Nat → Prop} {w : World} {own : Nat → Prop} {ρ : Nat → Option Nat} {nx : Nat} {w' : World} {own' : Nat → Prop} {ρ' : Nat → Option Nat} {nx' : Nat}
    (E : EvoW X w own ρ nx w' own' ρ' nx') {a : AV} {v : Value} (h : Rep w own ρ nx a v) : Rep w' own' ρ' nx' a v := by
  induction h with
  | int k n => exact .int k n
  | bool b => exact .bool b
  | str s => exact .str s
  | agg cs vs hl h ih => exact .agg cs vs hl ih
  | tup cs vs hl h ih => exact .tup cs vs hl ih
  | ptr n i wd c b hn hρ => exact .ptr n i wd c b (Nat.lt_of_lt_of_le hn E.nx) ((E.names n hn).trans hρ)
  | nilp => exact .nilp
  | sl n wd lo len b cap e sz hn hρ hsh hsz hlen => exact .sl n wd lo len b cap e sz (Nat.lt_of_lt_of_le hn E.nx) ((E.names n hn).trans hρ) (E.shape _ _ _ hsh) hsz hlen
  | slv n wd lo a hn hρ => exact .slv n wd lo a (Nat.lt_of_lt_of_le hn E.nx) ((E.names n hn).trans hρ)
  | esl => exact .esl
  | isl0 wd a cap => exact .isl0 wd a cap
  | isl wd xs b o cap us hlt hb hw hc hr hcap ih =>
    exact .isl wd xs b o cap us (Nat.lt_of_lt_of_le hlt E.size) (fun ho => hb (E.owns b hlt ho)) hw (fun i x c a hx ha => cell?_weak (hc i x c a hx ha) (E.same b hlt hb)) ih hcap
  | ip cs c b o us hlt hb hc hr ih =>
    exact .ip cs c b o us (Nat.lt_of_lt_of_le hlt E.size) (fun ho => hb (E.owns b hlt ho)) (fun j a ha => cell?_weak (hc j a ha) (E.same b hlt hb)) ih
  | imap kvs r es clock hb hh hl hk hv ihk ihv =>
    have hlt := lt_of_heap hh
    exact .imap kvs r es clock (fun ho => hb (E.owns r hlt ho)) (by rcases E.same r hlt hb with h | ⟨d, h⟩; exact h.trans hh; rw [hh] at h; cases h) hl ihk ihv
  | mp n b hn hρ => exact .mp n b (Nat.lt_of_lt_of_le hn E.nx) ((E.names n hn).trans hρ)
  | fn f first cap vs us hl hm h h' ih ih' => exact .fn f first cap vs us hl hm ih ih'
  | yld n b hn hρ => exact .yld n b (Nat.lt_of_lt_of_le hn E.nx) ((E.names n hn).trans hρ)
  | nilf => exact .nilf
  | any v => exact .any v

theorem Rep.mono {X : Nat → Prop} {w : World} {own : Nat → Prop} {ρ : Nat → Option Nat} {nx : Nat} {w' : World} {own' : Nat → Prop} {ρ' : Nat → Option Nat} {nx' : Nat}
    (E : Evo X w own ρ nx w' own' ρ' nx') {a : AV} {v : Value} (h : Rep w own ρ nx a v) : Rep w' own' ρ' nx' a v := h.monoW E.weak

theorem FrRep.mono {X : Nat → Prop} {w : World} {own : Nat → Prop} {ρ : Nat → Option Nat} {nx : Nat} {w' : World} {own' : Nat → Prop} {ρ' : Nat → Option Nat} {nx' : Nat}
    (E : Evo X w own ρ nx w' own' ρ' nx') {fr : Fr} {tmps : Array Value} (h : FrRep w own ρ nx fr tmps) : FrRep w' own' ρ' nx' fr tmps := by
  intro t v ht
  obtain ⟨u, hu, hr⟩ := h t v ht
  exact ⟨u, hu, hr.mono E⟩

theorem FrRep.monoW {X : Nat → Prop} {w : World} {own : Nat → Prop} {ρ : Nat → Option Nat} {nx : Nat} {w' : World} {own' : Nat → Prop} {ρ' : Nat → Option Nat} {nx' : Nat}
    (E : EvoW X w own ρ nx w' own' ρ' nx') {fr : Fr} {tmps : Array Value} (h : FrRep w own ρ nx fr tmps) : FrRep w' own' ρ' nx' fr tmps := by
  intro t v ht
  obtain ⟨u, hu, hr⟩ := h t v ht
  exact ⟨u, hu, hr.monoW E⟩

/-- a block that stays as it is -/
theorem BRep.monoW {X : Nat → Prop} {w : World} {own : Nat → Prop} {ρ : Nat → Option Nat} {nx : Nat} {w' : World} {own' : Nat → Prop} {ρ' : Nat → Option Nat} {nx' : Nat}
    (E : EvoW X w own ρ nx w' own' ρ' nx') {b : Nat} {ab : AB} (hs : w'.heap[b]? = w.heap[b]?) (h : BRep w own ρ nx b ab) : BRep w' own' ρ' nx' b ab := by
  cases h with
  | cells cs c e fz h hz hl hr => exact .cells cs c e fz (hs.trans h) hz hl fun j a u ha hu => (hr j a u ha hu).monoW E
  | row wd xs c e fz h hz hl hw hr => exact .row wd xs c e fz (hs.trans h) hz hl hw fun i x k a u hx ha hu => (hr i x k a u hx ha hu).monoW E
  | map kvs es clock h hl hk hv => exact .map kvs es clock (hs.trans h) hl (fun j kv e hj he => (hk j kv e hj he).monoW E) (fun j kv e hj he => (hv j kv e hj he).monoW E)
  | loop fr nt L h ht hr => exact .loop fr nt L (hs.trans h) ht (hr.monoW E)

theorem BRep.mono {X : Nat → Prop} {w : World} {own : Nat → Prop} {ρ : Nat → Option Nat} {nx : Nat} {w' : World} {own' : Nat → Prop} {ρ' : Nat → Option Nat} {nx' : Nat}
    (E : Evo X w own ρ nx w' own' ρ' nx') {b : Nat} {ab : AB} (hs : w'.heap[b]? = w.heap[b]?) (h : BRep w own ρ nx b ab) : BRep w' own' ρ' nx' b ab := h.monoW E.weak hs

theorem Reps.nil (w : World) (own : Nat → Prop) (ρ : Nat → Option Nat) (nx : Nat) : Reps w own ρ nx [] [] := ⟨rfl, fun j a u h => by simp at h⟩

theorem Reps.cons {w : World} {own : Nat → Prop} {ρ : Nat → Option Nat} {nx : Nat} {a : AV} {v : Value} {as : List AV} {vs : List Value} (h : Rep w own ρ nx a v) (hs : Reps w own ρ nx as vs) :
    Reps w own ρ nx (a :: as) (v :: vs) := by
  refine ⟨by simp [hs.1], fun j x u hx hu => ?_⟩
  cases j with
  | zero => simp at hx hu; subst hx; subst hu; exact h
  | succ j => simp at hx hu; exact hs.2 j x u hx hu

theorem Reps.mono {X : Nat → Prop} {w : World} {own : Nat → Prop} {ρ : Nat → Option Nat} {nx : Nat} {w' : World} {own' : Nat → Prop} {ρ' : Nat → Option Nat} {nx' : Nat}
    (E : Evo X w own ρ nx w' own' ρ' nx') {as : List AV} {vs : List Value} (h : Reps w own ρ nx as vs) : Reps w' own' ρ' nx' as vs :=
  ⟨h.1, fun j a u ha hu => (h.2 j a u ha hu).mono E⟩

/-- the cells of a value -/
theorem Rep.cells {w : World} {own : Nat → Prop} {ρ : Nat → Option Nat} {nx : Nat} {a : AV} {v : Value} (h : Rep w own ρ nx a v) (ha : a ≠ .any) :
    Reps w own ρ nx a.cells v.cells.toList := by
  have one : ∀ (a : AV) (v : Value), a.cells = [a] → v.cells = #[v] → Rep w own ρ nx a v → Reps w own ρ nx a.cells v.cells.toList := by
    intro a v h1 h2 h3
    rw [h1, h2]
    exact Reps.cons h3 (Reps.nil _ _ _ _)
  cases h with
  | agg cs vs hl h => exact ⟨by simp [AV.cells, Value.cells, hl], fun j a u ha hu => h j a u ha (by simpa [Value.cells] using hu)⟩
  | any v => exact absurd rfl ha
  | int k n => exact one _ _ rfl rfl (.int k n)
  | bool b => exact one _ _ rfl rfl (.bool b)
  | str s => exact one _ _ rfl rfl (.str s)
  | tup cs vs hl h => exact one _ _ rfl rfl (.tup cs vs hl h)
  | ptr n i wd c b hn hρ => exact one _ _ rfl rfl (.ptr n i wd c b hn hρ)
  | nilp => exact one _ _ rfl rfl .nilp
  | sl n wd lo len b cap e sz hn hρ hsh hsz hlen => exact one _ _ rfl rfl (.sl n wd lo len b cap e sz hn hρ hsh hsz hlen)
  | slv n wd lo a hn hρ => exact one _ _ rfl rfl (.slv n wd lo a hn hρ)
  | esl => exact one _ _ rfl rfl .esl
  | isl0 wd a cap => exact one _ _ rfl rfl (.isl0 wd a cap)
  | isl wd xs b o cap us hlt hb hw hc hr hcap => exact one _ _ rfl rfl (.isl wd xs b o cap us hlt hb hw hc hr hcap)
  | ip cs c b o us hlt hb hc hr => exact one _ _ rfl rfl (.ip cs c b o us hlt hb hc hr)
  | imap kvs r es clock hb hh hl hk hv => exact one _ _ rfl rfl (.imap kvs r es clock hb hh hl hk hv)
  | mp n b hn hρ => exact one _ _ rfl rfl (.mp n b hn hρ)
  | fn f first cap vs us hl hm h h' => exact one _ _ rfl rfl (.fn f first cap vs us hl hm h h')
  | yld n b hn hρ => exact one _ _ rfl rfl (.yld n b hn hρ)
  | nilf => exact one _ _ rfl rfl .nilf

end Go.Proofs.Ytiogdhpjfbenpaa.Ab
