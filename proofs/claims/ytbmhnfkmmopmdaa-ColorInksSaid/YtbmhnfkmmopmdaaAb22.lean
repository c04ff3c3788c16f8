/-
  ABSTRACT EVALUATOR, part 22: regions whose operations run in any order that their edges allow: definitions, and one operation.
-/
import Derived.Test.YtbmhnfkmmopmdaaAb21
import Derived.Orders
import Derived.Laws.IdiomStrings
namespace Go.Proofs.Ytbmhnfkmmopmdaa.Ab
set_option linter.unusedVariables false
set_option linter.unusedSimpArgs false

/-- what the walk says of an operation of a drawn region: the value of a call of a function that only computes; an element of a reading; 'this literal slice lasts as it is' -/
inductive Hint where
  | val (v : AV)
  | elem (x : AV)
  | froz
  | look (v : AV)
  | bytes
  | arr

/-- what a map of numbers gives at n -/
def lookP (n : Int) (z v : AV) : List (AV × AV) → Prop
  | [] => v = z
  | (.int .i64 k, u) :: r => (n = k ∧ v = u) ∨ (n ≠ k ∧ lookP n z v r)
  | _ :: _ => False
def keyB (n : Int) : List (AV × AV) → Option Bool
  | [] => some false
  | (.int .i64 k, _) :: r => match keyB n r with
    | some b => some (decide (n = k) || b)
    | none => none
  | _ :: _ => none

def bytesAV (s : ByteArray) : List AV := s.data.toList.map fun b => .int .u8 (b.toNat : Int)

/-- the cells of the first n elements, of one cell each -/
def catN : Nat → List AV → Option (List AV)
  | 0, _ => some []
  | n + 1, x :: r => match x.cells with
    | [c] => match catN n r with
      | some l => some (c :: l)
      | none => none
    | _ => none
  | _ + 1, [] => none

/-- what is known of an operation that has run: slot, conditions, value, tags -/
structure Ent where
  t : Option Nat
  C : Cnd
  v : AV
  tg : List (Nat × Bool)

abbrev Tb := List (Nat × Ent)

def strongL : List Edge → List Nat
  | [] => []
  | e :: r => match e.ground with
    | .textOnly _ => strongL r
    | .gcOnly _ => strongL r
    | _ => e.on :: strongL r

def depsIn (T : Tb) : List Nat → Option Tb
  | [] => some []
  | j :: r => match lk T j with
    | some e => match depsIn T r with
      | some es => some ((j, e) :: es)
      | none => none
    | none => none

def Ent.lf (e : Ent) : List (Nat × Cnd × AV) := match e.t with
  | some t => [(t, e.C, e.v)]
  | none => []

def lfs : Tb → List (Nat × Cnd × AV)
  | [] => []
  | (_, e) :: r => match e.t with
    | some t => (t, e.C, e.v) :: lfs r
    | none => lfs r

def tgs (es : Tb) : Option (Nat × Bool) → List (Nat × Bool)
  | none => []
  | some (j, _) => match lk es j with
    | some e => e.tg
    | none => []

def isT (d : Nat) : Option Nat → Bool
  | some t => Nat.beq t d
  | none => false
def mentT (d : Nat) : List (Nat × Bool) → Bool
  | [] => false
  | (x, _) :: r => Nat.beq x d || mentT d r
def memS (d : Nat) : Tb → Bool
  | [] => false
  | (_, e) :: r => isT d e.t || mentC d e.C || mentT d e.tg || memS d r
def okM (es : Tb) : List (Nat × Bool) → Bool
  | [] => true
  | (d, _) :: r => memS d es && okM es r

structure Ev where
  C : Cnd
  tg : List (Nat × Bool)
  out : Out
  obs : List Prop

/-- a literal slice that lasts as it is -/
def buildSliceF (P : Program) (t : TypeId) (len : Nat) (ps : List (Nat × AV)) : Option (AV × List Prop) :=
  match P.underlying t with
  | some (.slice e) => match sizeA P e with
    | some w => match partsInOrder 0 ps with
      | some xs => bif Nat.beq (lenNat xs) len && lenIs w xs && !Nat.beq w 0 && (hasZero P e && Nat.ble (len * w) 16777216) then some (.isl w xs, []) else none
      | none => none
    | none => none
  | _ => none

def evOp (P : Program) (ops : Array Oper) (h : Option Hint) (i : Nat) : AS → Option Ev
  | ⟨fr, lf, tg, hp, nx, nt⟩ => match ops[i]? with
    | none => none
    | some o => match guardOf ops lf fr tg o.guard with
      | none => none
      | some (C, tg') => match h with
        | some (.val v) => match callOf ops i ⟨fr, lf, tg, hp, nx, nt⟩ with
          | some (f, l, _) => some ⟨C, tg', .pure v, impls tg' C [(APure P f l v)]⟩
          | none => none
        | some (.elem x) => match idxOf P ops i ⟨fr, lf, tg, hp, nx, nt⟩ with
          | some (_, xs, j, _) => some ⟨C, tg', .pure (.ip x.cells 0), impls tg' C [(0 ≤ j ∧ xs[j.toNat]? = some x)]⟩
          | none => none
        | some .froz => match o.op with
          | .buildSlice t len parts => match getParts (getO lf fr C) parts.toList with
            | some ps => match buildSliceF P t len ps with
              | some (v, ob) => some ⟨C, tg', .pure v, impls tg' C ob⟩
              | none => none
            | none => none
          | _ => none
        | some (.look v) => match o.op with
          | .lookup t m k ok => match getO lf fr C m, getO lf fr C k with
            | some (.imap kvs), some (.int .i64 n) => match mapA P t with
              | some vt => match zeroA P vt, keyB n kvs with
                | some z, some b => match ok with
                  | true => some ⟨C, tg', .pure (.tup [v, .bool b]), impls tg' C [(lookP n z v kvs)]⟩
                  | false => some ⟨C, tg', .pure v, impls tg' C [(lookP n z v kvs)]⟩
                | _, _ => none
              | none => none
            | _, _ => none
          | _ => none
        | some .bytes => match o.op with
          | .convert src dst x => match getO lf fr C x, P.underlying src, P.underlying dst with
            | some (.str s), some .string, some (.slice e) => match P.underlying e with
              | some (.int .u8) => some ⟨C, tg', .pure (.isl 1 (bytesAV s)), []⟩
              | _ => none
            | _, _, _ => none
          | _ => none
        | some .arr => match o.op with
          | .sliceToArrayPointer t x => match getO lf fr C x, P.underlying t with
            | some (.isl 1 xs), some (.array (n + 1) _) => match catN (n + 1) xs with
              | some cs => some ⟨C, tg', .pure (.ip cs 0), []⟩
              | none => none
            | _, _ => none
          | _ => none
        | none => match o.op with
          | .pick c a b => match pickE lf fr C c a b with
            | some v => some ⟨C, tg', .pure v, []⟩
            | none => none
          | op => match effOf P (getO lf fr C) op with
            | none => none
            | some ⟨rd, k⟩ => match getBlocks hp rd with
              | none => none
              | some bs => match k bs with
                | some out => some ⟨C, tg', out, impls tg' C out.obs⟩
                | none => none

/-- the machine goes past an operation -/
def Did (P : Program) (ops : Array Oper) (i : Nat) (a : Act) (w : World) (a' : Act) (w' : World) : Prop :=
  ∀ (b : Frame) (K : List Item) (rest : List Nat) (cs : List Frame), b.kind = .normal → Steps P (lone (b.atR a (.inRegion ops (i :: rest) :: K)) cs w) (lone (b.atR a' (.inRegion ops rest :: K)) cs w')

section
variable {X : Nat → Prop} {P : Program} {B : Nat} {W0 : World} {O0 : Nat → Prop} {ρ0 ρ : Nat → Option Nat} {ops : Array Oper} {i : Nat} {a : Act} {w w' : World} {nx : Nat} {hp : Hp}

theorem OpRun.did {a' : Act} (hd : ∀ o c, ops[i]? = some o → o.op ≠ .defer c) (hr : OpRun P ops i a w a' w') : Did P ops i a w a' w' := by
  intro b K rest cs _
  unfold OpRun at hr
  split at hr
  · rename_i hi
    obtain ⟨rfl, rfl⟩ := hr
    have := stepR_op_skip (P := P) (b := b) (a := a') (k := K) (cs := cs) (w := w') (ops := ops) (i := i) (rest := rest) (by simp [hi])
    exact .one (by simpa [hi, Act.put] using this)
  · rename_i o hi
    split at hr
    · rename_i hw
      have hg := stepGR_op (P := P) (b := b) (k := K) (cs := cs) (w := w) (rest := rest) hi hw
      rw [Oper.semAt_eq _ _ _ (fun c => hd o c hi)] at hg
      have hfin : ∀ v, (b.atR a (.inRegion ops (i :: rest) :: K)).finish v = b.atR (a.put o.dst v) (.inRegion ops rest :: K) := by
        intro v; rw [Frame.finish_atR, hi]; rfl
      rcases hr with ⟨u, hr, rfl⟩ | ⟨hr, rfl⟩
      · refine .one (step_lone_go ?_)
        rw [hg, ← hfin]; simp [stepG.apply, hr]
      · refine .one (step_lone_go ?_)
        rw [hg, ← hfin]; simp [stepG.apply, hr]
    · rename_i hw
      obtain ⟨rfl, rfl⟩ := hr
      have := stepR_op_skip (P := P) (b := b) (a := a) (k := K) (cs := cs) (w := w') (ops := ops) (i := i) (rest := rest) (by simp [hi]; simpa using hw)
      exact .one (by simpa [hi] using this)

/-- what an operation leaves -/
def Left (X : Nat → Prop) (w : World) (ρ : Nat → Option Nat) (nx : Nat) (hp : Hp) (out : Out) (u : Value) (w' : World) (ρ' : Nat → Option Nat) : Prop :=
  Rep w' (Own X ρ' (hpAfter hp nx out.set out.new)) ρ' (nxAfter nx out.new) (out.val nx) u ∧ HRep X w' ρ' (nxAfter nx out.new) (hpAfter hp nx out.set out.new) ∧
    Evo X w (Own X ρ hp) ρ nx w' (Own X ρ' (hpAfter hp nx out.set out.new)) ρ' (nxAfter nx out.new) ∧ w'.os = w.os ∧ w'.output = w.output

theorem Evo.push (H : HRep X w ρ nx hp) (o : Obj) : Evo X w (Own X ρ hp) ρ nx (w.alloc o) (Own X ρ hp) ρ nx :=
  ⟨fun _ _ => rfl, Nat.le_refl _, fun b hb _ => heap_alloc_lt hb, fun b hb => heap_alloc_lt (H.xlt b hb), fun _ _ h => h, by simp, fun b e k h => (shape_of_same (heap_alloc_lt (lt_of_shape h))).trans h⟩

theorem HRep.push (H : HRep X w ρ nx hp) (o : Obj) : HRep X (w.alloc o) ρ nx hp where
  lt := H.lt
  blk n ab hn := by
    rcases H.blk n ab hn with ⟨b, hb, hr⟩ | h0
    · exact .inl ⟨b, hb, hr.mono (Evo.push H o) (heap_alloc_lt (H.ownlt (.inr ⟨n, ab, hn, hb⟩)))⟩
    · exact .inr h0
  xlt b hx := Nat.lt_of_lt_of_le (H.xlt b hx) (by simp)
  disj := H.disj
  inj := H.inj

theorem buildSliceF_ok (H : HRep X w ρ nx hp) {t : TypeId} {len : Nat} {ps : List (Nat × AV)} {vs : Array (Nat × Value)} {v : AV} {obs : List Prop} (h : buildSliceF P t len ps = some (v, obs)) (hobs : AllL obs)
    (hp' : PReps w (Own X ρ hp) ρ nx ps vs.toList) : OpOK X w ρ nx hp ((do pure (.value (← Instr.buildSlice t len vs)) : Sem Next).run P w) [] none (fun _ => v) := by
  unfold buildSliceF at h
  split at h
  · rename_i e hu
    split at h
    · rename_i wd hwd
      split at h
      · rename_i xs hxs
        cases hg : (Nat.beq (lenNat xs) len && lenIs wd xs && !Nat.beq wd 0 && (hasZero P e && Nat.ble (len * wd) 16777216))
        · simp [hg] at h
        · simp only [hg, cond_true, Option.some.injEq, Prod.mk.injEq] at h
          obtain ⟨rfl, rfl⟩ := h
          simp only [Bool.and_eq_true, Bool.not_eq_true'] at hg
          obtain ⟨⟨⟨hg1, hg2⟩, hg3⟩, hg4, hg5⟩ := hg
          have hpos : 0 < wd := Nat.pos_of_ne_zero fun e => by subst e; simp at hg3
          have hlen : xs.length = len := by rw [← lenNat_eq]; exact Nat.eq_of_beq_eq_true hg1
          obtain ⟨us, hvs, hus⟩ := partsInOrder_spec 0 ps xs vs.toList hxs hp'
          have hul : us.length = len := by rw [← hus.1, hlen]
          have hsz : ∀ v ∈ us, v.cells.size = wd := by
            intro v hv
            obtain ⟨j, hj⟩ := List.getElem?_of_mem hv
            have hjl : j < xs.length := by rw [hus.1]; exact (List.getElem?_eq_some_iff.1 hj).1
            have hx := List.getElem?_eq_getElem hjl
            obtain ⟨m1, _, m3⟩ := lenIs_mem hg2 (List.mem_of_getElem? hx)
            have := ((hus.2 j _ v hx hj).cells m3).1
            simp at this
            omega
          obtain ⟨i, hi, his⟩ : ∃ i, P.info? e = some i ∧ i.size = wd := by
            unfold sizeA at hwd
            split at hwd
            · rename_i i hi; exact ⟨i, hi, Option.some.inj hwd⟩
            · cases hwd
          obtain ⟨z, hz⟩ : ∃ z, i.zero = some z := by
            unfold hasZero at hg4
            rw [hi] at hg4
            dsimp only at hg4
            split at hg4
            · exact ⟨_, by assumption⟩
            · cases hg4
          have hrun : (Instr.buildSlice t len vs).run P w = .ok (.slice (some ⟨w.heap.size, 0, none⟩) len len) (w.alloc (.cells (us.flatMap fun v => v.cells.toList).toArray e)) := by
            by_cases h0 : len = 0
            · have hnil : us = [] := List.eq_nil_of_length_eq_zero (by omega)
              subst hnil
              have hv0 : vs.toList = [] := by simpa using hvs
              simp [Instr.buildSlice, run_underlying hu, sizeOf, typeInfo, hi, h0, hv0, Instr.fill, newRow, show (Array.range 0) = #[] from rfl]
            · have hne : len * wd ≠ 0 := Nat.mul_ne_zero h0 (by omega)
              have hf := Great.fill_whole hpos us ((Array.range (len * wd)).map (z.cells[· % z.cells.size]!)) hsz (by simp [hul])
              rw [← hvs] at hf
              have hle := Nat.le_of_ble_eq_true hg5
              exact run_buildSlice w t e len vs _ i z hu hi hz (by rw [his]; omega) (by rw [his]; exact hne) (by rw [his]; exact hf)
          have hflat : ∀ k, (us.flatMap fun v => v.cells.toList)[k]? = (us[k / wd]?).bind (fun v => v.cells[k % wd]?) := Great.flat_get hpos us hsz
          have E := Evo.push H (.cells (us.flatMap fun v => v.cells.toList).toArray e)
          have hcell : ∀ (k : Nat) (x : AV) (c : Nat) (a : AV), xs[k]? = some x → x.cells[c]? = some a → ∃ u, (us.flatMap fun v => v.cells.toList)[k * wd + c]? = some u ∧ Rep w (Own X ρ hp) ρ nx a u := by
            intro k x c a hx ha
            have hcl : c < wd := by have := (lenIs_mem hg2 (List.mem_of_getElem? hx)).1; rw [← this]; exact (List.getElem?_eq_some_iff.1 ha).1
            have hkl : k < us.length := by rw [← hus.1]; exact (List.getElem?_eq_some_iff.1 hx).1
            have hv := List.getElem?_eq_getElem hkl
            have hne := (lenIs_mem hg2 (List.mem_of_getElem? hx)).2.2
            have hcs := (hus.2 k x _ hx hv).cells hne
            have hcl2 : c < us[k].cells.size := by rw [hsz _ (List.mem_of_getElem? hv)]; exact hcl
            refine ⟨us[k].cells[c], ?_, hcs.2 c a _ ha (by simp [hcl2])⟩
            rw [hflat, show (k * wd + c) / wd = k by rw [Nat.mul_comm, Nat.mul_add_div hpos]; simp [Nat.div_eq_of_lt hcl], show (k * wd + c) % wd = c by rw [Nat.mul_comm, Nat.mul_add_mod]; exact Nat.mod_eq_of_lt hcl, hv]
            simp [hcl2]
          clear hflat
          generalize (us.flatMap fun v => v.cells.toList) = fl at *
          refine ⟨_, _, ρ, .inl (by rw [Sem.run_bind, hrun]; rfl), ?_, H.push _, E, rfl, rfl⟩
          have := Rep.isl (w := w.alloc (.cells fl.toArray e)) (own := Own X ρ hp) (ρ := ρ) (nx := nx) wd xs w.heap.size 0 len (fun k c => (fl[k * wd + c]?).getD undef)
            (by simp) (fun h => absurd (H.ownlt h) (by omega)) (fun x hx => (lenIs_mem hg2 hx).1)
            (fun k x c a hx ha => by
              obtain ⟨u, hu, _⟩ := hcell k x c a hx ha
              have hh := heap_alloc_new w (.cells fl.toArray e)
              simp only [World.cell?, hh, Option.isSome_none, Bool.false_eq_true, if_false, Nat.zero_add]
              simp [hu])
            (fun k x c a hx ha => by
              obtain ⟨u, hu, hr⟩ := hcell k x c a hx ha
              simp only [hu, Option.getD_some]
              exact hr.mono E) (by omega)
          rw [hlen] at this
          exact this
      · cases h
    · cases h
  · cases h

theorem find_look {own : Nat → Prop} {n : Int} {z v : AV} : ∀ (kvs : List (AV × AV)) (es : List MapEntry) (i : Nat) (b : Bool), keyB n kvs = some b → lookP n z v kvs →
    kvs.length = es.length → (∀ (j : Nat) (kv : AV × AV) (e : MapEntry), kvs[j]? = some kv → es[j]? = some e → Rep w own ρ nx kv.1 e.key) → (∀ (j : Nat) (kv : AV × AV) (e : MapEntry), kvs[j]? = some kv → es[j]? = some e → Rep w own ρ nx kv.2 e.val) →
    (∃ j u, Instr.findNow (.int .i64) (.int .i64 n) es i = some (some (j, u)) ∧ Rep w own ρ nx v u ∧ b = true) ∨
    (Instr.findNow (.int .i64) (.int .i64 n) es i = some none ∧ b = false ∧ v = z)
  | [], es, i, b, h, hv, hl, _, _ => by
    simp [keyB] at h; subst h
    cases es with
    | nil => exact .inr ⟨rfl, rfl, hv⟩
    | cons e r => simp at hl
  | (k, x) :: r, es, i, b, h, hv, hl, hk, hvs => by
    cases es with
    | nil => simp at hl
    | cons e es =>
      cases k <;> try (simp [keyB] at h; done)
      case int kk m =>
        cases kk <;> try (simp [keyB] at h; done)
        simp only [keyB] at h
        split at h
        · rename_i b' hb'
          obtain rfl := Option.some.inj h
          have h0 := hk 0 _ e rfl rfl
          have hkey : e.key = .int .i64 m := by
            revert h0; generalize e.key = q; intro h0; cases h0; rfl
          simp only [lookP] at hv
          rcases hv with ⟨rfl, rfl⟩ | ⟨hne, hv⟩
          · exact .inl ⟨i, e.val, by simp [Instr.findNow, Instr.sameNow, hkey], hvs 0 _ e rfl rfl, by simp⟩
          · have ih := find_look (n := n) (z := z) r es (i + 1) b' hb' hv (by simpa using hl) (fun j kv e hj he => hk (j + 1) kv e (by simpa using hj) (by simpa using he)) (fun j kv e hj he => hvs (j + 1) kv e (by simpa using hj) (by simpa using he))
            have hb : (n == m) = false := by simpa using hne
            simpa [Instr.findNow, Instr.sameNow, hkey, hb, hne] using ih
        · cases h

theorem lookH_ok (H : HRep X w ρ nx hp) {t vt : TypeId} {ok : Bool} {kvs : List (AV × AV)} {n : Int} {z v : AV} {b : Bool} {x y : Value} (hvt : mapA P t = some vt) (hz : zeroA P vt = some z) (hb : keyB n kvs = some b) (hv : lookP n z v kvs)
    (hm : Rep w (Own X ρ hp) ρ nx (.imap kvs) x) (hk : Rep w (Own X ρ hp) ρ nx (.int .i64 n) y) :
    OpOK X w ρ nx hp ((do pure (.value (← Instr.lookup t x y ok)) : Sem Next).run P w) [] none (fun _ => bif ok then .tup [v, .bool b] else v) := by
  obtain ⟨kt, hu, hku⟩ := mapA_spec hvt
  cases hk
  cases hm with
  | imap _ r es clock hbo hh hl hk1 hv1 =>
    obtain ⟨iv, zv, hiv, hzv, hzo⟩ := zeroA_spec hz
    have hzr := ofVal_rep (w := w) (own := Own X ρ hp) (ρ := ρ) (nx := nx) hzo
    have hck := MapKept.run_checkKey (P := P) (w := w) (k := .int .i64 n) hku (by simp [MapKept.IsKey]) es.isEmpty 9999
    have key : ∃ u, (Instr.lookup t (.map (some r)) (.int .i64 n) ok).run P w = .ok (if ok then .tuple #[u, .bool b] else u) w ∧ Rep w (Own X ρ hp) ρ nx v u := by
      rcases find_look (w := w) (own := Own X ρ hp) (ρ := ρ) (nx := nx) (n := n) (z := z) (v := v) kvs es.toList 0 b hb hv (by simp [hl]) (fun j kv e hj he => hk1 j kv e hj (by simpa using he)) (fun j kv e hj he => hv1 j kv e hj (by simpa using he)) with ⟨j, u, hf, hr, hB⟩ | ⟨hf, hB, hI⟩
      · have hfk := MapKept.run_findKey (P := P) (w := w) (kt := kt) (l := es.toList) hku hf
        exact ⟨u, by simp only [Instr.lookup, Sem.run_bind, run_underlying hu, Result.andThen_ok, MapKept.run_getObj_map hh, Sem.run_pure, hck, hfk, hB], hr⟩
      · have hfk := MapKept.run_findKey (P := P) (w := w) (kt := kt) (l := es.toList) hku hf
        exact ⟨zv, by simp only [Instr.lookup, Sem.run_bind, run_underlying hu, Result.andThen_ok, MapKept.run_getObj_map hh, Sem.run_pure, hck, hfk, hB, zeroValue, typeInfo, run_program, hiv, hzv], by rw [hI]; exact hzr⟩
    obtain ⟨u, hrun, hr⟩ := key
    refine opOK_pure H (by rw [Sem.run_bind, hrun]; rfl) ?_
    cases ok with
    | false => exact hr
    | true =>
      refine .tup _ #[u, .bool b] rfl fun j q u' hq hu' => ?_
      match j with
      | 0 => simp at hq hu'; subst hq; subst hu'; exact hr
      | 1 => simp at hq hu'; subst hq; subst hu'; exact .bool _
      | j + 2 => simp at hq

theorem HRep.pushD (H : HRep X w ρ nx hp) (o : Obj) : HRep X (w.drew.alloc o) ρ nx hp ∧ Evo X w (Own X ρ hp) ρ nx (w.drew.alloc o) (Own X ρ hp) ρ nx :=
  ⟨(H.draw (w.drawn + 1)).push (w := w.drew) o, fun _ _ => rfl, Nat.le_refl _, fun b hb _ => heap_alloc_lt (w := w.drew) hb, fun b hb => heap_alloc_lt (w := w.drew) (H.xlt b hb), fun _ _ h => h, by simp,
    fun b e k h => (shape_of_same (heap_alloc_lt (w := w.drew) (lt_of_shape h))).trans h⟩

theorem bytesH_ok (H : HRep X w ρ nx hp) {src dst e : TypeId} {s : ByteArray} {x : Value} (hs : P.underlying src = some .string) (hd : P.underlying dst = some (.slice e)) (he : P.underlying e = some (.int .u8)) (hx : Rep w (Own X ρ hp) ρ nx (.str s) x) :
    OpOK X w ρ nx hp ((do pure (.value (← convert src dst x)) : Sem Next).run P w) [] none (fun _ => .isl 1 (bytesAV s)) := by
  cases hx
  have hrun := run_bytes_of_string (P := P) w src dst e s hs hd he
  generalize hfz : ((bytesRow s (grownCap w s.size 0 e)).size, (bytesRow s (grownCap w s.size 0 e)).size + 1) = fz at hrun
  obtain ⟨H', E'⟩ := H.pushD (.cells (bytesRow s (grownCap w s.size 0 e)) e fz)
  refine ⟨_, _, ρ, .inl (by rw [Sem.run_bind, hrun]; rfl), ?_, H', E', rfl, rfl⟩
  have hcap := grownCap_ge w s.size 0 e
  have hh := heap_alloc_new w.drew (.cells (bytesRow s (grownCap w s.size 0 e)) e fz)
  have hlen : (bytesAV s).length = s.size := by simp [bytesAV]
  have hget : ∀ (i : Nat) (x : AV), (bytesAV s)[i]? = some x → ∃ b : UInt8, x = .int .u8 (b.toNat : Int) ∧ (bytesRow s (grownCap w s.size 0 e))[i]? = some (.int .u8 (b.toNat : Int)) := by
    intro i x hx
    simp only [bytesAV, List.getElem?_map, Option.map_eq_some_iff] at hx
    obtain ⟨b, hb, rfl⟩ := hx
    refine ⟨b, rfl, ?_⟩
    have hil := (List.getElem?_eq_some_iff.1 hb).1
    have hb' : s.data[i]? = some b := by simpa using hb
    have hil' : i < s.data.size := by simpa using hil
    rw [bytesRow, Array.getElem?_append_left (by simpa using hil')]
    simp [hb']
  have one : ∀ (i : Nat) (x : AV) (c : Nat) (a : AV), (bytesAV s)[i]? = some x → x.cells[c]? = some a → c = 0 ∧ a = x := by
    intro i x c a hx ha
    obtain ⟨b, rfl, _⟩ := hget i x hx
    cases c with
    | zero => simp [AV.cells] at ha; exact ⟨rfl, ha.symm⟩
    | succ c => simp [AV.cells] at ha
  have := Rep.isl (w := w.drew.alloc (.cells (bytesRow s (grownCap w s.size 0 e)) e fz)) (own := Own X ρ hp) (ρ := ρ) (nx := nx) 1 (bytesAV s) w.heap.size 0 (grownCap w s.size 0 e) (fun k c => ((bytesRow s (grownCap w s.size 0 e))[k]?).getD undef)
    (by simp) (fun h => absurd (H.ownlt h) (by omega)) (fun x hx => by
      obtain ⟨j, hj⟩ := List.getElem?_of_mem hx
      obtain ⟨b, rfl, _⟩ := hget j x hj
      rfl)
    (fun k x c a hx ha => by
      obtain ⟨b, rfl, hb⟩ := hget k x hx
      obtain ⟨rfl, rfl⟩ := one k _ c a hx ha
      rw [show w.heap.size = w.drew.heap.size from rfl]
      simp only [World.cell?, hh, Option.isSome_none, Bool.false_eq_true, if_false, Nat.zero_add, Nat.mul_one, Nat.add_zero, hb, Option.getD_some])
    (fun k x c a hx ha => by
      obtain ⟨b, rfl, hb⟩ := hget k x hx
      obtain ⟨rfl, rfl⟩ := one k _ c a hx ha
      simp only [hb, Option.getD_some]
      exact .int _ _) (by rw [hlen]; exact hcap)
  rw [hlen] at this
  exact this

theorem catN_spec : ∀ {n : Nat} {xs cs : List AV}, catN n xs = some cs → n ≤ xs.length ∧ cs.length = n ∧ ∀ (j : Nat) (a : AV), cs[j]? = some a → ∃ x, xs[j]? = some x ∧ x.cells[0]? = some a
  | 0, xs, cs, h => by simp [catN] at h; subst h; exact ⟨by simp, rfl, fun j a h => by simp at h⟩
  | n + 1, [], cs, h => by simp [catN] at h
  | n + 1, x :: r, cs, h => by
    simp only [catN] at h
    split at h
    · rename_i c hc
      split at h
      · rename_i l hl
        obtain rfl := Option.some.inj h
        obtain ⟨h1, h2, h3⟩ := catN_spec hl
        refine ⟨by simp; omega, by simp [h2], fun j a ha => ?_⟩
        cases j with
        | zero => simp at ha; subst ha; exact ⟨x, rfl, by simp [hc]⟩
        | succ j => obtain ⟨y, hy, hz⟩ := h3 j a (by simpa using ha); exact ⟨y, by simpa using hy, hz⟩
      · cases h
    · cases h

theorem arrH_ok (H : HRep X w ρ nx hp) {t e : TypeId} {n : Nat} {xs cs : List AV} {x : Value} (hu : P.underlying t = some (.array (n + 1) e)) (hc : catN (n + 1) xs = some cs) (hx : Rep w (Own X ρ hp) ρ nx (.isl 1 xs) x) :
    OpOK X w ρ nx hp ((do pure (.value (← Instr.arrayAt t x)) : Sem Next).run P w) [] none (fun _ => .ip cs 0) := by
  obtain ⟨h1, h2, h3⟩ := catN_spec hc
  cases hx with
  | isl0 _ a cap => simp at h1
  | isl _ _ b o cap us hlt hb hw hcc hr hcap =>
    refine opOK_pure H (u := .pointer (some ⟨b, o, none⟩)) ?_ ?_
    · have : ¬ xs.length < n + 1 := by omega
      simp [Instr.arrayAt, run_underlying hu, this]
    · have := Rep.ip (w := w) (own := Own X ρ hp) (ρ := ρ) (nx := nx) cs 0 b o (fun j => us j 0) hlt hb
        (fun j a ha => by
          obtain ⟨x, hx, hx0⟩ := h3 j a ha
          have := hcc j x 0 a hx hx0
          simpa using this)
        (fun j a ha => by
          obtain ⟨x, hx, hx0⟩ := h3 j a ha
          exact hr j x 0 a hx hx0)
      simpa using this

end
end Go.Proofs.Ytbmhnfkmmopmdaa.Ab
