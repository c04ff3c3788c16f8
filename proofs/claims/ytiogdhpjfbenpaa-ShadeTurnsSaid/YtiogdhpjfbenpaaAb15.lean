/-
  ABSTRACT EVALUATOR, part 15: contracts and calls.
-/
import Derived.Test.YtiogdhpjfbenpaaAb14
namespace Go.Proofs.Ytiogdhpjfbenpaa.Ab
set_option linter.unusedVariables false
set_option linter.unusedSimpArgs false

mutual
/-- no names -/
def pureB : AV → Bool
  | .agg cs => pureBs cs
  | .tup cs => pureBs cs
  | .isl _ xs => pureBs xs
  | .ip cs _ => pureBs cs
  | .imap kvs => pureKs kvs
  | .fn _ a b => pureBs a && pureBs b
  | .ptr _ _ _ _ => false
  | .sl _ _ _ _ => false
  | .mp _ => false
  | .yld _ => false
  | .int _ _ => true
  | .bool _ => true
  | .str _ => true
  | .nilp => true
  | .esl => true
  | .nilf => true
  | .any => true
def pureBs : List AV → Bool
  | [] => true
  | a :: r => pureB a && pureBs r
def pureKs : List (AV × AV) → Bool
  | [] => true
  | (a, b) :: r => pureB a && pureB b && pureKs r
end

theorem pureBs_get : ∀ {l : List AV} {j : Nat} {a : AV}, pureBs l = true → l[j]? = some a → pureB a = true
  | [], j, a, _, h => by simp at h
  | x :: r, 0, a, h, ha => by simp only [pureBs, Bool.and_eq_true] at h; simp at ha; subst ha; exact h.1
  | x :: r, j + 1, a, h, ha => by simp only [pureBs, Bool.and_eq_true] at h; simp at ha; exact pureBs_get h.2 ha

theorem pureKs_get : ∀ {l : List (AV × AV)} {j : Nat} {a : AV × AV}, pureKs l = true → l[j]? = some a → pureB a.1 = true ∧ pureB a.2 = true
  | [], j, a, _, h => by simp at h
  | (x, y) :: r, 0, a, h, ha => by simp only [pureKs, Bool.and_eq_true] at h; simp at ha; subst ha; exact h.1
  | (x, y) :: r, j + 1, a, h, ha => by simp only [pureKs, Bool.and_eq_true] at h; simp at ha; exact pureKs_get h.2 ha

theorem pureB_cells {x a : AV} {c : Nat} (h : pureB x = true) (ha : x.cells[c]? = some a) : pureB a = true := by
  cases x
  case agg cs => exact pureBs_get (l := cs) (by simpa [pureB] using h) ha
  all_goals (cases c <;> simp [AV.cells] at ha; subst ha; exact h)

theorem pureBs_map {α : Type} (f : α → AV) : ∀ (l : List α), (∀ x, pureB (f x) = true) → pureBs (l.map f) = true
  | [], _ => rfl
  | x :: r, h => by simp [pureBs, h, pureBs_map f r h]

/-- a reading without names -/
theorem Rep.pure {w : World} {own own' : Nat → Prop} {ρ ρ' : Nat → Option Nat} {nx nx' : Nat} {a : AV} {v : Value} (ho : ∀ b, own' b → own b) (h : Rep w own ρ nx a v) (hp : pureB a = true) : Rep w own' ρ' nx' a v := by
  induction h with
  | int k n => exact .int k n
  | bool b => exact .bool b
  | str s => exact .str s
  | agg cs vs hl h ih => exact .agg cs vs hl fun j a u ha hu => ih j a u ha hu (pureBs_get (by simpa [pureB] using hp) ha)
  | tup cs vs hl h ih => exact .tup cs vs hl fun j a u ha hu => ih j a u ha hu (pureBs_get (by simpa [pureB] using hp) ha)
  | ptr n i wd c b hn hρ => simp [pureB] at hp
  | nilp => exact .nilp
  | sl n wd lo len b cap e sz hn hρ hsh hsz hlen => simp [pureB] at hp
  | slv n wd lo a hn hρ => simp [pureB] at hp
  | esl => exact .esl
  | isl0 wd a cap => exact .isl0 wd a cap
  | isl wd xs b o cap us hlt hb hw hc hr hcap ih =>
    exact .isl wd xs b o cap us hlt (fun h => hb (ho b h)) hw hc (fun i x c a hx ha => ih i x c a hx ha (pureB_cells (pureBs_get (by simpa [pureB] using hp) hx) ha)) hcap
  | ip cs c b o us hlt hb hc hr ih => exact .ip cs c b o us hlt (fun h => hb (ho b h)) hc fun j a ha => ih j a ha (pureBs_get (by simpa [pureB] using hp) ha)
  | imap kvs r es clock hb hh hl hk hv ihk ihv =>
    exact .imap kvs r es clock (fun h => hb (ho r h)) hh hl (fun j kv e hj he => ihk j kv e hj he (pureKs_get (by simpa [pureB] using hp) hj).1) (fun j kv e hj he => ihv j kv e hj he (pureKs_get (by simpa [pureB] using hp) hj).2)
  | mp n b hn hρ => simp [pureB] at hp
  | fn f first cap vs us hl hm h h' ih ih' =>
    simp only [pureB, Bool.and_eq_true] at hp
    exact .fn f first cap vs us hl hm (fun j a u ha hu => ih j a u ha hu (pureBs_get hp.1 ha)) (fun j a u ha hu => ih' j a u ha hu (pureBs_get hp.2 ha))
  | yld n b hn hρ => simp [pureB] at hp
  | nilf => exact .nilf
  | any v => exact .any v

theorem Reps.pure {w : World} {own own' : Nat → Prop} {ρ ρ' : Nat → Option Nat} {nx nx' : Nat} {as : List AV} {vs : List Value} (ho : ∀ b, own' b → own b) (h : Reps w own ρ nx as vs) (hp : pureBs as = true) : Reps w own' ρ' nx' as vs :=
  ⟨h.1, fun j a u ha hu => (h.2 j a u ha hu).pure ho (pureBs_get hp ha)⟩

theorem Reps.append {w : World} {own : Nat → Prop} {ρ : Nat → Option Nat} {nx : Nat} {as bs : List AV} {vs us : List Value} (h : Reps w own ρ nx as vs) (h' : Reps w own ρ nx bs us) : Reps w own ρ nx (as ++ bs) (vs ++ us) := by
  refine ⟨by simp [h.1, h'.1], fun j a u ha hu => ?_⟩
  have hl := h.1
  by_cases hj : j < as.length
  · rw [List.getElem?_append_left hj] at ha
    rw [List.getElem?_append_left (by omega)] at hu
    exact h.2 j a u ha hu
  · rw [List.getElem?_append_right (by omega)] at ha
    rw [List.getElem?_append_right (by omega)] at hu
    rw [hl] at ha
    exact h'.2 _ a u ha hu

/-- a Go function with a body: calling it enters it -/
def Enters (P : Program) (f : FuncId) : Prop := ∀ (args : Array Value) (w : World), (callFunc f args).run P w = .ok (.enter f args) w

theorem enters_of {P : Program} {f : FuncId} {fn : Func} {c : Code} (hf : P.funcs[f]? = some fn) (hn : (fn.name == "runtime.NumGoroutine") = false) (hb : fn.body = some c) : Enters P f := by
  intro args w
  have hn' : fn.name ≠ "runtime.NumGoroutine" := by simpa using hn
  simp [callFunc, hf, hb, run_program, hn']

/-- A CONTRACT: called with these arguments over these named blocks the function returns with R. -/
def ACall (P : Program) (f : FuncId) (args : List AV) (hp : Hp) (nx : Nat) (R : AV → Hp → Nat → Prop) : Prop :=
  Enters P f ∧ ∀ (X : Nat → Prop) (ρ0 : Nat → Option Nat) (vs : Array Value) (w : World), HRep X w ρ0 nx hp → Reps w (Own X ρ0 hp) ρ0 nx args vs.toList → ∀ cs,
    ∃ v w', (∃ fr, Steps P (lone (Frame.enter P f vs .normal) cs w) (lone fr cs w') ∧ fr.fn = f ∧ fr.leaving P w' (.returned v)) ∧ Post X nx w (Own X ρ0 hp) ρ0 R v w'

def argFr : Nat → List AV → Fr
  | _, [] => []
  | i, a :: r => (i, a) :: argFr (i + 1) r

theorem lk_argFr {i t : Nat} {v : AV} : ∀ {l : List AV}, lk (argFr i l) t = some v → i ≤ t ∧ l[t - i]? = some v
  | [], h => by simp [argFr, lk] at h
  | a :: r, h => by
    simp only [argFr, lk] at h
    cases hb : Nat.beq i t
    · simp only [hb, cond_false] at h
      obtain ⟨h1, h2⟩ := lk_argFr h
      refine ⟨by omega, ?_⟩
      rw [show t - i = (t - (i + 1)) + 1 by omega]
      exact h2
    · simp only [hb, cond_true, Option.some.injEq] at h
      obtain rfl := Nat.eq_of_beq_eq_true hb
      subst h
      exact ⟨Nat.le_refl _, by simp⟩

/-- A CONTRACT FROM THE BODY. -/
theorem acall_of {P : Program} {f : FuncId} {fn : Func} {c : Code} {args : List AV} {hp : Hp} {nx : Nat} {R : AV → Hp → Nat → Prop} (hf : P.funcs[f]? = some fn) (hn : (fn.name == "runtime.NumGoroutine") = false)
    (hb : fn.body = some c) (hl : Nat.ble args.length fn.ntmps = true) (h : AGo P (.call fn) nx [.code c] ⟨argFr 0 args, [], [], hp, nx, fn.ntmps⟩ R) : ACall P f args hp nx R := by
  refine ⟨enters_of hf hn hb, fun X ρ0 vs w H hr cs => ?_⟩
  let b : Frame := { (default : Frame) with fn := f, kind := .normal, roundOf := none }
  have henter : Frame.enter P f vs .normal = b.atR { tmps := vs ++ Array.replicate (fn.ntmps - vs.size) undef, defers := [] } [.code c] := by
    simp [Frame.enter, Frame.atR, hf, hb, b]
  have hlen : vs.size = args.length := by have := hr.1; simp at this; omega
  have hle : args.length ≤ fn.ntmps := Nat.le_of_ble_eq_true hl
  obtain ⟨v, w', hlv, hpost⟩ := h X w (Own X ρ0 hp) ρ0 ρ0 { tmps := vs ++ Array.replicate (fn.ntmps - vs.size) undef, defers := [] } w
    { size := by simp; omega
      fr := fun t v ht => by
        obtain ⟨_, h2⟩ := lk_argFr ht
        simp only [Nat.sub_zero] at h2
        have ht' : t < args.length := (List.getElem?_eq_some_iff.1 h2).1
        have hv : vs[t]? = some vs[t] := Array.getElem?_eq_getElem (by omega)
        refine ⟨vs[t], ?_, hr.2 t v _ h2 (by simp)⟩
        rw [Array.getElem?_append_left (by omega)]
        exact hv
      lf := fun _ _ _ h => (by cases h)
      tg := fun _ _ h => (by cases h)
      heap := H
      base := Base.refl _ _ _
      le := Nat.le_refl _
      names := fun _ _ => rfl
      marks := ⟨[], rfl, List.nodup_nil, fun _ h => by cases h⟩ } b cs rfl ⟨rfl, hf⟩
  obtain ⟨fr, h1, h2, h3⟩ := hlv
  rw [← henter] at h1
  exact ⟨v, w', ⟨fr, h1, h2, h3⟩, hpost⟩

/-- A PURE CONTRACT: readings in, a reading out, nothing else. -/
def APure (P : Program) (f : FuncId) (args : List AV) (v : AV) : Prop :=
  ACall P f args [] 0 (fun av _ _ => av = v) ∧ pureBs args = true ∧ pureB v = true

theorem evo_of_base {X : Nat → Prop} {w w' : World} {ρ ρ' : Nat → Option Nat} {nx nx' : Nat} {hp hp' : Hp} (hb : Base X w (Own X ρ hp) w' (Own X ρ' hp')) (hle : nx ≤ nx') (hn : ∀ n, n < nx → ρ' n = ρ n) :
    Evo X w (Own X ρ hp) ρ nx w' (Own X ρ' hp') ρ' nx' where
  names := hn
  nx := hle
  same := hb.same
  xsame := hb.xsame
  owns b hlt ho := by
    rcases hb.own b ho with h | h
    · exact h
    · omega
  size := hb.size
  shape := hb.shape

theorem lk_nil_heap (X : Nat → Prop) (w : World) (hx : ∀ b, X b → b < w.heap.size) : HRep X w (fun _ => none) 0 [] :=
  ⟨fun n ab h => by simp [lk] at h, fun n ab h => by simp [lk] at h, hx, fun n ab b h => by simp [lk] at h, fun n m ab ab' b h => by simp [lk] at h⟩

theorem own_nil (X : Nat → Prop) (ρ : Nat → Option Nat) (b : Nat) : Own X ρ [] b ↔ X b := by
  constructor
  · rintro (h | ⟨n, ab, h, _⟩)
    · exact h
    · simp [lk] at h
  · exact .inl

/-- a pure contract, anywhere -/
theorem APure.lift {P : Program} {f : FuncId} {args : List AV} {v : AV} (h : APure P f args v) (hp : Hp) (nx : Nat) : ACall P f args hp nx (fun av hp' nx' => av = v ∧ hp' = hp ∧ nx' = nx) := by
  obtain ⟨⟨he, hc⟩, h1, h2⟩ := h
  refine ⟨he, fun X ρ0 vs w H hr cs => ?_⟩
  obtain ⟨u, w', hsteps, ρ', av, hp', nx', rfl, hrep, H', hb, _, _⟩ := hc (Own X ρ0 hp) (fun _ => none) vs w (lk_nil_heap _ w (fun b hb => H.ownlt hb)) (hr.pure (fun b hb => (own_nil _ _ b).1 hb) h1) cs
  -- nothing that was there has turned
  have hkeep : ∀ b, b < w.heap.size → w'.heap[b]? = w.heap[b]? := by
    intro b hlt
    by_cases hx : Own X ρ0 hp b
    · exact hb.xsame b hx
    · exact hb.same b hlt (fun ho => hx ((own_nil _ _ b).1 ho))
  have E : Evo X w (Own X ρ0 hp) ρ0 nx w' (Own X ρ0 hp) ρ0 nx :=
    ⟨fun _ _ => rfl, Nat.le_refl _, fun b hlt _ => hkeep b hlt, fun b hx => hkeep b (H.xlt b hx), fun _ _ h => h, hb.size, hb.shape⟩
  refine ⟨u, w', hsteps, ρ0, av, hp, nx, ⟨rfl, rfl, rfl⟩, hrep.pure (fun b hb => .inl hb) h2, ?_,
    ⟨hb.size, fun b hlt _ => hkeep b hlt, fun b hx => hkeep b (H.xlt b hx), fun b ho => .inl ho, hb.shape, hb.os, hb.out⟩, Nat.le_refl _, fun _ _ => rfl⟩
  refine ⟨H.lt, fun n ab hn => ?_, fun b hx => Nat.lt_of_lt_of_le (H.xlt b hx) hb.size, H.disj, H.inj⟩
  rcases H.blk n ab hn with ⟨b, hρ, hbr⟩ | h0
  · exact .inl ⟨b, hρ, hbr.mono E (hkeep b (H.ownlt (.inr ⟨n, ab, hn, hρ⟩)))⟩
  · exact .inr h0

end Go.Proofs.Ytiogdhpjfbenpaa.Ab
