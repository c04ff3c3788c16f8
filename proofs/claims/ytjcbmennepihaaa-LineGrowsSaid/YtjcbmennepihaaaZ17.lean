import Derived.Test.YtjcbmennepihaaaZ14
import Derived.Test.YtjcbmennepihaaaZ16
import Derived.Test.YtjcbmennepihaaaZ15
/-
  ABSTRACT EVALUATOR, part 48: append where the bound is one of bytes (as far as a slice that is handed in can reach).
-/
namespace Go.Proofs.Ytjcbmennepihaaa.Ab
set_option linter.unusedVariables false
set_option linter.unusedSimpArgs false
section
variable {X : Nat → Prop} {P : Program} {w w' : World} {ρ ρ' : Nat → Option Nat} {nx : Nat} {hp hp0 : Hp}
theorem nextslicecap_leW (need cap : Nat) (h : cap < need) : Builtin.nextslicecap need cap ≤ need + need / 4 + 768 := by
  unfold Builtin.nextslicecap
  split
  · omega
  · split
    · omega
    · simp only [Builtin.growBy]
      repeat' split
      all_goals omega
theorem run_appendW {t t2 ty e : TypeId} {d2 : TypeDesc} {i : TypeInfo} {z : Value} (hu : P.underlying t = some (.slice e)) (hu2 : P.underlying t2 = some d2) (hd2 : ∀ k, d2 ≠ .int k) (hi : P.info? e = some i) (hz : i.zero = some z)
    {base : Option Addr} {sLen sCap n : Nat} {x : Value} {f g : Nat → Value} (hl : Builtin.lenOf x = pure n) (hf : ∀ k, Loads P { w with drawn := k } i.size sLen (.slice base sLen sCap) f) (hg : ∀ k, Loads P { w with drawn := k } i.size n x g)
    (hsmall : sLen + n ≤ 140737488355328) (hfit : (sLen + n) * i.bytes ≤ 140737488355328) (hby : i.bytes ≤ 65536) :
    (sLen + n ≤ sCap → (Builtin.append_ #[t, t2] ty #[.slice base sLen sCap, x]).run P w = ((match base with | some a => storeCells (a.add (sLen * i.size)) ((List.range (n * i.size)).map g) | none => pure () : Sem Unit).run P w).andThen fun _ w' => .ok (.slice base (sLen + n) sCap) w') ∧
    (¬ sLen + n ≤ sCap → ∃ cap, sLen + n ≤ cap ∧ (Builtin.append_ #[t, t2] ty #[.slice base sLen sCap, x]).run P w =
      .ok (.slice (some ⟨w.heap.size, 0, none⟩) (sLen + n) cap) (w.drew.alloc (.cells (((List.range (sLen * i.size)).map f ++ (List.range (n * i.size)).map g).toArray ++ Builtin.zeroCells z.cells (cap - (sLen + n))) e))) := by
  have hsz : (sizeOf e).run P w = .ok i.size w := by simp [sizeOf, typeInfo, hi]
  have hgw : (Builtin.firstCells i.size n x).run P w = .ok ((List.range (n * i.size)).map g).toArray w := hg w.drawn
  have hgd : (Builtin.firstCells i.size n x).run P w.drew = .ok ((List.range (n * i.size)).map g).toArray w.drew := hg (w.drawn + 1)
  have hfd : (Builtin.firstCells i.size sLen (.slice base sLen sCap)).run P w.drew = .ok ((List.range (sLen * i.size)).map f).toArray w.drew := hf (w.drawn + 1)
  constructor
  · intro hroom
    cases d2 <;> first
      | exact absurd rfl (hd2 _)
      | (simp only [Builtin.append_, List.getElem?_toArray, List.getElem?_cons_zero, List.getElem?_cons_succ, Sem.run_bind, run_underlying hu, run_underlying hu2, Result.andThen_ok, hsz, Bool.false_eq_true, if_false, hl, Sem.run_pure, hroom, if_true, Bool.not_false, hgw]
         cases base <;> simp)
  · intro hroom
    refine ⟨grownCap w (sLen + n) sCap e, grownCap_ge _ _ _ _, ?_⟩
    have h63 : ¬ ((sLen : Int) + (n : Int) > IntKind.i64.max) := by
      have : IntKind.i64.max = 9223372036854775807 := rfl
      omega
    have h48 : ¬ (Builtin.nextslicecap (sLen + n) sCap * i.bytes > 2 ^ 48) := by
      have h1 := nextslicecap_leW (sLen + n) sCap (by omega)
      have h2 := Nat.mul_le_mul_right i.bytes h1
      have h3 : 4 * ((sLen + n) / 4 * i.bytes) ≤ (sLen + n) * i.bytes := by rw [← Nat.mul_assoc]; exact Nat.mul_le_mul_right _ (by omega)
      rw [Nat.add_mul, Nat.add_mul] at h2
      omega
    have hty : (typeInfo e).run P w = .ok i w := by simp [typeInfo, hi]
    have hty2 : (typeInfo e).run P w.drew = .ok i w.drew := by simp [typeInfo, hi]
    have hzz : (zeroValue e).run P w.drew = .ok z w.drew := by simp [zeroValue, typeInfo, hi, hz]
    have hask : ∀ (b : Nat) (w : World), (askRoom b).run P w = .ok () w := by
      intro b w
      unfold askRoom
      split <;> rfl
    have hch : (choose (.appendCap (sLen + n) sCap e)).run P w = .ok (grownCap w (sLen + n) sCap e) w.drew := by
      simp [choose, Sem.run, Question.forced, grownCap]
    have harr : ∀ (A B : List Value) (C : Array Value), A.toArray ++ (B.toArray ++ C) = (A ++ B).toArray ++ C := fun A B C => by apply Array.ext'; simp
    have hcast : ((sLen + n : Nat) : Int) = (sLen : Int) + (n : Int) := by omega
    cases d2 <;> first
      | exact absurd rfl (hd2 _)
      | (simp only [Builtin.append_, List.getElem?_toArray, List.getElem?_cons_zero, List.getElem?_cons_succ, Sem.run_bind, run_underlying hu, run_underlying hu2, Result.andThen_ok, hsz, Bool.false_eq_true, if_false, hl, Sem.run_pure, hroom, Bool.not_false, hty,
           hcast, h63, false_and, Sem.run_ite, h48, hch, hask, hfd, hgd, hzz, hty2, newRow]
         simp [hzz, newObj, Sem.run, harr])
end
def appBytes (P : Program) (ops : Array Oper) (i : Nat) : Option Nat := match ops[i]? with
  | some o => match o.op with
    | .call ⟨_, _, ts⟩ => match ts.toList with
      | t :: _ => match P.underlying t with
        | some (.slice e) => some (P.bytesOf e)
        | _ => none
      | _ => none
    | _ => none
  | none => none
section
variable {X : Nat → Prop} {P : Program} {w w' : World} {ρ ρ' : Nat → Option Nat} {nx : Nat} {hp hp0 : Hp} {md : Md} {B : Nat} {K : List Item} {s s' : AS} {R : AV → Hp → Nat → Prop}
theorem append_okW (H : HRep X w ρ nx hp) {t t2 ty : TypeId} {wd : Nat} {a : AV} {bv xv : Value} {pre ys : List AV} {set : List (Nat × Option AB)} {o1 : List Ob} {g : Nat → Value} (ht : appT P t = some wd) (ht2 : notInt P t2 = true)
    (hb : baseOf hp wd a = some (pre, set, o1)) (ho : AllL o1) (ha : Rep w (Own X ρ hp) ρ nx a bv)
    (hl : Builtin.lenOf xv = pure ys.length) (hL : ∀ k, Loads P { w with drawn := k } wd ys.length xv g) (hg : Flat w (Own X ρ hp) ρ nx wd ys g) (hone : ∀ x ∈ ys, allOne x.cells = true) (hsmall : pre.length + ys.length ≤ 140737488355328) (hfit : ∀ e i, P.underlying t = some (.slice e) → P.info? e = some i → (pre.length + ys.length) * i.bytes ≤ 140737488355328) :
    OpOK X w ρ nx hp ((do pure (.value (← Builtin.append_ #[t, t2] ty #[bv, xv])) : Sem Next).run P w) set (some (.row wd (pre ++ ys))) (fun n => .sl n wd 0 (pre.length + ys.length)) := by
  obtain ⟨e, i, z, hu, hi, hz, hby, hpos, rfl, hzs⟩ := appT_spec ht
  obtain ⟨d2, hu2, hd2⟩ := notInt_spec ht2
  have hone' : ∀ v ∈ (List.range (ys.length * i.size)).map g, v.oneCell' = true := by
    intro v hv
    simp only [List.mem_map, List.mem_range] at hv
    obtain ⟨j, hj, rfl⟩ := hv
    have hq : j / i.size < ys.length := (Nat.div_lt_iff_lt_mul hpos).2 hj
    have hx := List.getElem?_eq_getElem hq
    have hmem := List.mem_of_getElem? hx
    have hcl : j % i.size < ys[j / i.size].cells.length := by rw [hg.wid _ hmem]; exact Nat.mod_lt _ hpos
    have hr := hg.rep _ _ _ _ hx (List.getElem?_eq_getElem hcl)
    rw [← divmod _ _ hpos] at hr
    exact hr.scalar (allOne_mem (hone _ hmem) (List.getElem?_eq_getElem hcl))
  -- nothing before
  have none_ : ∀ (a0 : Option Addr), pre = [] → setBlocks hp set = setBlocks hp set → bv = .slice a0 0 0 → (∀ m ab, lk (setBlocks hp set) m = some ab → lk hp m = some ab) →
      OpOK X w ρ nx hp ((do pure (.value (← Builtin.append_ #[t, t2] ty #[bv, xv])) : Sem Next).run P w) set (some (.row i.size (pre ++ ys))) (fun n => .sl n i.size 0 (pre.length + ys.length)) := by
    intro a0 hpre _ hbv hsub
    subst hpre
    subst hbv
    have hf : ∀ k, Loads P { w with drawn := k } i.size 0 (.slice a0 0 0) (fun _ => undef) := by
      intro k
      cases a0 with
      | none => simp [Loads, Builtin.firstCells]
      | some a => simp [Loads, Builtin.firstCells, loadCells, loadCellsFrom]
    obtain ⟨r1, r2⟩ := run_appendW (P := P) (w := w) (ty := ty) (base := a0) (sLen := 0) (sCap := 0) (n := ys.length) (x := xv) hu hu2 hd2 hi hz hl hf hL (by simpa using hsmall) (by simpa using hfit e i hu hi) hby
    by_cases hy : ys = []
    · subst hy
      obtain ⟨H', E'⟩ := append_none H hsub i.size
      refine ⟨.slice a0 0 0, w, unbind ρ nx, .inl ?_, ?_, H', E', rfl, rfl⟩
      · rw [Sem.run_bind, r1 (by simp)]
        cases a0 <;> simp [storeCells]
      · exact .slv nx i.size 0 a0 (Nat.lt_succ_self _) (by simp [unbind])
    · have hlp : 0 < ys.length := List.length_pos_iff.2 hy
      obtain ⟨cap, hc1, hc2⟩ := r2 (by omega)
      obtain ⟨H', E', R'⟩ := append_grow (e := e) H hsub (wd := i.size) (ps := []) (ys := ys) (f := fun _ => undef) (g := g) (cap := cap) (C := Builtin.zeroCells z.cells (cap - (0 + ys.length))) ⟨fun x hx => (by cases hx), fun i x c a hx => by simp at hx⟩ hg
        (by rw [zeroCells_size, hzs]; simp) (by simpa using hc1)
      simp only [List.length_nil] at H' E' R'
      exact ⟨_, _, _, .inl (by rw [Sem.run_bind, hc2]; rfl), R', H', E', rfl, rfl⟩
  unfold baseOf at hb
  split at hb
  · simp only [Option.some.injEq, Prod.mk.injEq] at hb
    obtain ⟨rfl, rfl, rfl⟩ := hb
    cases ha with
    | esl => exact none_ none rfl rfl rfl (fun m ab h => h)
  · rename_i n w' len
    cases hbw : Nat.beq w' i.size
    · simp [hbw] at hb
    · simp only [hbw, cond_true] at hb
      obtain rfl := Nat.eq_of_beq_eq_true hbw
      split at hb
      · rename_i w2 xs hn
        cases hb2 : Nat.beq w2 i.size
        · simp [hb2] at hb
        · simp only [hb2, cond_true, Option.some.injEq, Prod.mk.injEq] at hb
          obtain ⟨rfl, rfl, rfl⟩ := hb
          obtain rfl := Nat.eq_of_beq_eq_true hb2
          have hle : len ≤ xs.length := ho.1
          have hpl : (xs.take len).length = len := by simp; omega
          cases ha with
          | slv _ _ _ a0 hlt hρ => exact none_ a0 (by simp) rfl rfl (fun m ab h => del_sub hp n m ab h)
          | sl _ _ _ _ b cap e' sz hlt hρ hsh hsz hcap =>
            have ha := Rep.sl (w := w) (own := Own X ρ hp) n i.size 0 len b cap e' sz hlt hρ hsh hsz hcap
            obtain ⟨f, f1, f2, f3⟩ := loads_sl (P := P) H hpos hn (by omega) ha
            simp only [Nat.zero_mul, List.drop_zero] at f2 f3
            rw [hpl]
            rw [hpl] at hsmall
            have hfit' := hfit e i hu hi
            rw [hpl] at hfit'
            obtain ⟨r1, r2⟩ := run_appendW (P := P) (w := w) (ty := ty) (base := some ⟨b, 0, none⟩) (sLen := len) (sCap := cap) (n := ys.length) (x := xv) hu hu2 hd2 hi hz hl f2 hL hsmall hfit' hby
            by_cases hroom : len + ys.length ≤ cap
            · obtain ⟨w', hs, H', E', R', q1, q2⟩ := append_room (P := P) H hpos hn hle hρ hsh (by omega) hroom hg hone'
              simp only [Nat.zero_mul]
              exact ⟨_, w', _, .inl (by rw [Sem.run_bind, r1 hroom]; simp only [hs]; rfl), R', H', E', q1, q2⟩
            · obtain ⟨cap', hc1, hc2⟩ := r2 hroom
              obtain ⟨H', E', R'⟩ := append_grow (e := e) H (hp0 := del hp n) (fun m ab h => del_sub hp n m ab h) (wd := i.size) (ps := xs.take len) (ys := ys) (f := f) (g := g) (cap := cap') (C := Builtin.zeroCells z.cells (cap' - (len + ys.length))) f3 hg
                (by rw [zeroCells_size, hzs, hpl]) (by rw [hpl]; exact hc1)
              rw [hpl] at H' E' R'
              simp only [Nat.zero_mul]
              exact ⟨_, _, _, .inl (by rw [Sem.run_bind, hc2]; rfl), R', H', E', rfl, rfl⟩
      · cases hb
  · cases hb
theorem go_appendW {ops : Array Oper} {i : Nat} {rest : List Nat} {fr : Fr} {lf lf' : List (Nat × Cnd × AV)} {tg tg2 : List (Nat × Bool)} {nt wd n d : Nat} {pre ys zs : List AV} {obs : List Ob} {hp' : Hp}
    (h : appOf P ops i ⟨fr, lf, tg, hp, nx, nt⟩ = some ⟨pre, ys, wd, hp', obs, d⟩) (hdn : Nat.blt d nt = true) (hlf : spine (delL lf d) = some lf') (htg : spine (del tg d) = some tg2) (hobs : AllL obs)
    (hz : pre ++ ys = zs) (hn : n = zs.length) (by_ : Nat) (hB : appBytes P ops i = some by_) (hsmall : zs.length ≤ 140737488355328) (hfit : zs.length * by_ ≤ 140737488355328) (hone : ∀ x ∈ ys, allOne x.cells = true)
    (hk : AGo P md B (.inRegion ops rest :: K) ⟨(d, .sl nx wd 0 n) :: fr, lf', tg2, (nx, .row wd zs) :: hp', nx + 1, nt⟩ R) : AGo P md B (.inRegion ops (i :: rest) :: K) ⟨fr, lf, tg, hp, nx, nt⟩ R := by
  obtain ⟨o, x, y, t, t2, asv, ts, a, b, set, o1, o2, hi, hg, hop, hd, has, hts, h1, h2, h3, h4, h5, h6, hh, hob⟩ := appOf_spec h
  dsimp only at hd h1 h5 h6 hh hob
  subst hz
  subst hn
  subst hob
  rw [AllL_append] at hobs
  refine go_op (set := set) (new := some (.row wd (pre ++ ys))) (val := fun n => .sl n wd 0 (pre ++ ys).length) hi hg hd hdn (fun c hc => by rw [hop] at hc; cases hc) hlf htg (fun X w ρ ev H hr => ?_) (by rw [hh]; rfl) hk
  obtain ⟨e, i, z, hu, hi', hz, hby, hpos, _⟩ := appT_spec h1
  obtain ⟨g, g1, g2, g3⟩ := srcOf_spec (P := P) H hpos h6 hobs.2 (hr _ _ h4)
  have hlen : pre.length + ys.length ≤ 140737488355328 := by simpa using hsmall
  have hts0 : ts = #[t, t2] := by cases ts; simp at hts; simp [hts]
  have hf : ∀ e i, P.underlying t = some (.slice e) → P.info? e = some i → (pre.length + ys.length) * i.bytes ≤ 140737488355328 := by
    intro e' i' q1 q2
    have : by_ = i'.bytes := by
      simp only [appBytes, hi, hop, hts0, q1, Program.bytesOf, q2] at hB
      simpa using hB.symm
    rw [← this]; simpa using hfit
  have key := append_okW (P := P) (ty := o.type) H h1 h2 h5 hobs.1 (hr _ _ h3) g1 g2 g3 hone hlen hf
  have has' : asv.map ev = #[ev x, ev y] := by cases asv; simp at has; simp [has]
  simp only [List.length_append]
  simp only [execOp, hop, resolve, invoke, Sem.run_bind, Sem.run_pure, Result.andThen_ok, has', hts0, builtin] at key ⊢
  exact key
end
end Go.Proofs.Ytjcbmennepihaaa.Ab

/-
  Paths: flattened drafts.
-/
namespace Go.Proofs.Ytjcbmennepihaaa.Ab
set_option linter.unusedVariables false
set_option linter.unusedSimpArgs false
set_option maxRecDepth 100000
set_option maxHeartbeats 8000000
def flk (t : Sk) : Sk := if (stepOf t).k = 3 then { t with k := 0 } else t
theorem flk_wf {t : Sk} (h : wfK t) : wfK (flk t) := by
  unfold flk
  split
  · exact ⟨⟨Int.le_refl 0, show (0 : Int) ≤ 255 by omega⟩, h.a0, h.b0, h.a1, h.b1, h.a2, h.b2⟩
  · exact h
def foS (l : List Sk) : List St := ofS (l.map flk)
def fkAt (l : List Sk) (i : Nat) : List Sk := (l.take i).map flk
theorem fkAt_succ {l : List Sk} {i : Nat} (h : i < l.length) : fkAt l (i + 1) = fkAt l i ++ [flk l[i]] := by
  unfold fkAt
  rw [List.take_succ_eq_append_getElem h, List.map_append]; rfl
theorem fkAt_len {l : List Sk} {i : Nat} (h : i ≤ l.length) : (fkAt l i).length = i := by simp [fkAt]; omega
theorem flatof_go (l : List Sk) (hw : ∀ t ∈ l, wfK t) (hl : l.length * 14 ≤ 140737488351232) : AGo Try.prog (.call Try.f18) 0 [.code (body Try.f18)] ⟨argFr 0 [skP l], [], [], [], 0, Try.f18.ntmps⟩ (Fz (pA (foS l))) := by
  have el : ((l.map skA).length : Int) = l.length := by simp
  repeat' first | (refine go_ift rfl rfl rfl ?_) | (refine go_iff rfl rfl rfl ?_) | (refine go_runs rfl rfl ?_ ?_; first | exact trivial | (simp only [AllL, AllL2, Ob2.sem, elemO, lookO, ob, implL, inI64, bl, and_true, true_and]; first | omega | ((repeat' (first | apply And.intro | intro _)) <;> first | omega | rfl | decide | (rename_i h; revert h; decide) | decide +kernel)))
  refine go_virt 7 3 rfl ?_
  refine go_ren 1 [(0, 0)] [4, 3, 0] rfl ?_ ?_
  · exact ⟨pureSk l, rfl, trivial⟩
  refine go_loopV (ι := Nat) (fun i => [(4, .int .i64 i), (3, .sl 0 7 0 i)]) (fun i => [(0, .row 7 ((fkAt l i).map skA))]) (fun _ => 1) (fun i => i ≤ l.length) (fun i => l.length - i) 0 (by rfl) (by omega) (by exact ⟨rfl, rfl, trivial⟩) (by rfl) (by rfl) ?_
  rintro i g0 ih
  have f0 := fkAt_len g0
  repeat' first | (refine go_ift rfl rfl rfl ?_) | (refine go_iff rfl rfl rfl ?_) | (refine go_runs rfl rfl ?_ ?_; first | exact trivial | (simp only [AllL, AllL2, Ob2.sem, elemO, lookO, ob, implL, inI64, bl, and_true, true_and]; first | omega | ((repeat' (first | apply And.intro | intro _)) <;> first | omega | rfl | decide | (rename_i h; revert h; decide) | decide +kernel)))
  refine go_if rfl rfl (fun hc => ?_) (fun hc => ?_) <;> try simp only [bl] at hc
  · have hi : i < l.length := by omega
    have hS := sstep_c l[i] (hw l[i] (List.getElem_mem hi))
    have f1 := fkAt_len (l := l) (i := i + 1) (by omega)
    have fs := fkAt_succ hi
    repeat' first | (refine go_ift rfl rfl rfl ?_) | (refine go_iff rfl rfl rfl ?_) | (refine go_runs rfl rfl ?_ ?_; first | exact trivial | (simp only [AllL, AllL2, Ob2.sem, elemO, lookO, ob, implL, inI64, bl, and_true, true_and]; first | omega | ((repeat' (first | apply And.intro | intro _)) <;> first | omega | rfl | decide | (rename_i h; revert h; decide) | decide +kernel)))
    refine go_idx (x := skA l[i]) rfl ?_ rfl ?_
    · exact idx_map hi
    repeat' first | (refine go_ift rfl rfl rfl ?_) | (refine go_iff rfl rfl rfl ?_) | (refine go_runs rfl rfl ?_ ?_; first | exact trivial | (simp only [AllL, AllL2, Ob2.sem, elemO, lookO, ob, implL, inI64, bl, and_true, true_and]; first | omega | ((repeat' (first | apply And.intro | intro _)) <;> first | omega | rfl | decide | (rename_i h; revert h; decide) | decide +kernel))) | (refine' go_pureX rfl ?_ ?_ ?_; rotate_left 2; (focus ((first | apply hS) <;> first | with_reducible assumption | omega | (dsimp only; first | with_reducible assumption | omega) | (simp only [inI64, isReal]; omega) | assumption)); (focus rfl))
    refine go_if rfl rfl (fun h3 => ?_) (fun h3 => ?_) <;> try simp only [bl] at h3
    · have e : skA (flk l[i]) = .agg [.int .u8 0, .int .i16 l[i].a0, .int .i16 l[i].b0, .int .i16 l[i].a1, .int .i16 l[i].b1, .int .i16 l[i].a2, .int .i16 l[i].b2] := by unfold flk; rw [if_pos h3]; rfl
      repeat' first | (refine go_ift rfl rfl rfl ?_) | (refine go_iff rfl rfl rfl ?_) | (refine go_runs rfl rfl ?_ ?_; first | exact trivial | (simp only [AllL, AllL2, Ob2.sem, elemO, lookO, ob, implL, inI64, bl, and_true, true_and]; first | omega | ((repeat' (first | apply And.intro | intro _)) <;> first | omega | rfl | decide | (rename_i h; revert h; decide) | decide +kernel)))
      refine go_appendW (zs := (fkAt l (i + 1)).map skA) (n := i + 1) rfl rfl rfl rfl ?_ ?_ ?_ 14 rfl ?_ ?_ ?_ ?_
      · exact ⟨by simp; omega, by simp, trivial⟩
      · rw [List.take_of_length_le (by simp; omega), fs, List.map_append, List.map_cons, e]; rfl
      · simp [f1]
      · simp; omega
      · simp; omega
      · exact allOne1 rfl
      repeat' first | (refine go_ift rfl rfl rfl ?_) | (refine go_iff rfl rfl rfl ?_) | (refine go_runs rfl rfl ?_ ?_; first | exact trivial | (simp only [AllL, AllL2, Ob2.sem, elemO, lookO, ob, implL, inI64, bl, and_true, true_and]; first | omega | ((repeat' (first | apply And.intro | intro _)) <;> first | omega | rfl | decide | (rename_i h; revert h; decide) | decide +kernel)))
      refine go_ren 1 [(3, 0)] [4, 3, 0] rfl ?_ ?_
      · exact ⟨pureSk l, pureSk _, trivial⟩
      refine go_back (ih (i + 1) (by omega) (by omega)) rfl rfl ?_
      exact ⟨lk_int rfl (by omega), rfl, rfl, trivial⟩
    have e : flk l[i] = l[i] := by unfold flk; rw [if_neg h3]
    repeat' first | (refine go_ift rfl rfl rfl ?_) | (refine go_iff rfl rfl rfl ?_) | (refine go_runs rfl rfl ?_ ?_; first | exact trivial | (simp only [AllL, AllL2, Ob2.sem, elemO, lookO, ob, implL, inI64, bl, and_true, true_and]; first | omega | ((repeat' (first | apply And.intro | intro _)) <;> first | omega | rfl | decide | (rename_i h; revert h; decide) | decide +kernel)))
    refine go_appendW (zs := (fkAt l (i + 1)).map skA) (n := i + 1) rfl rfl rfl rfl ?_ ?_ ?_ 14 rfl ?_ ?_ ?_ ?_
    · exact ⟨by simp; omega, by simp, trivial⟩
    · rw [List.take_of_length_le (by simp; omega), fs, List.map_append, List.map_cons, e]; rfl
    · simp [f1]
    · simp; omega
    · simp; omega
    · exact allOne1 rfl
    repeat' first | (refine go_ift rfl rfl rfl ?_) | (refine go_iff rfl rfl rfl ?_) | (refine go_runs rfl rfl ?_ ?_; first | exact trivial | (simp only [AllL, AllL2, Ob2.sem, elemO, lookO, ob, implL, inI64, bl, and_true, true_and]; first | omega | ((repeat' (first | apply And.intro | intro _)) <;> first | omega | rfl | decide | (rename_i h; revert h; decide) | decide +kernel)))
    refine go_ren 1 [(3, 0)] [4, 3, 0] rfl ?_ ?_
    · exact ⟨pureSk l, pureSk _, trivial⟩
    refine go_back (ih (i + 1) (by omega) (by omega)) rfl rfl ?_
    exact ⟨lk_int rfl (by omega), rfl, rfl, trivial⟩
  have hi : i = l.length := by omega
  have z : (((fkAt l i).map skA).drop 0).take i = (l.map flk).map skA := by
    rw [List.drop_zero, List.take_of_length_le (by simp; omega), hi]; unfold fkAt; rw [List.take_of_length_le (Nat.le_refl _)]
  have hO := of_c (l.map flk) (fun t ht => by obtain ⟨u, hu, rfl⟩ := List.mem_map.1 ht; exact flk_wf (hw u hu))
  refine go_freeze 0 [3] [] rfl ?_ ?_
  · exact ⟨by simp; omega, trivial⟩
  rw [z]
  repeat' first | (refine go_ift rfl rfl rfl ?_) | (refine go_iff rfl rfl rfl ?_) | (refine go_runs rfl rfl ?_ ?_; first | exact trivial | (simp only [AllL, AllL2, Ob2.sem, elemO, lookO, ob, implL, inI64, bl, and_true, true_and]; first | omega | ((repeat' (first | apply And.intro | intro _)) <;> first | omega | rfl | decide | (rename_i h; revert h; decide) | decide +kernel))) | (refine' go_pureX rfl ?_ ?_ ?_; rotate_left 2; (focus ((first | apply hO) <;> first | with_reducible assumption | omega | (dsimp only; first | with_reducible assumption | omega) | (simp only [inI64, isReal]; omega) | assumption)); (focus rfl))
  exact go_ret rfl ⟨_, _, _, rfl, trivial, .rfl _⟩
theorem flatof_c (l : List Sk) (hw : ∀ t ∈ l, wfK t) (hl : l.length * 14 ≤ 140737488351232) : APure Try.prog 18 [skP l] (pA (foS l)) :=
  pure_ofZ Try.func18 rfl rfl rfl (flatof_go l hw hl) (by simp [pureBs, pureB, skP, pureSk]) (pureB_p _)
theorem foS_len (l : List Sk) : (foS l).length ≤ 300 := ofS_len _
end Go.Proofs.Ytjcbmennepihaaa.Ab

/-
  Winding numbers of rectangles (plain Lean).
-/
namespace Go.Proofs.Ytjcbmennepihaaa.Ab
set_option linter.unusedVariables false
set_option linter.unusedSimpArgs false
set_option maxRecDepth 100000
end Go.Proofs.Ytjcbmennepihaaa.Ab

/-
  Winding numbers: Winding in the reference; Inside in both; flattened drafts.
-/
namespace Go.Proofs.Ytjcbmennepihaaa.Ab
set_option linter.unusedVariables false
set_option linter.unusedSimpArgs false
set_option maxRecDepth 100000
set_option maxHeartbeats 8000000
end Go.Proofs.Ytjcbmennepihaaa.Ab

/-
  Winding: points near a path, in the laws of chapter 23.
-/
namespace Go.Proofs.Ytjcbmennepihaaa.Ab
set_option linter.unusedVariables false
set_option linter.unusedSimpArgs false
set_option maxRecDepth 100000
set_option maxHeartbeats 8000000
end Go.Proofs.Ytjcbmennepihaaa.Ab

/-
  Winding: polygons, in the laws of chapter 23.
-/
namespace Go.Proofs.Ytjcbmennepihaaa.Ab
set_option linter.unusedVariables false
set_option linter.unusedSimpArgs false
set_option maxRecDepth 100000
set_option maxHeartbeats 8000000
end Go.Proofs.Ytjcbmennepihaaa.Ab

/-
  Winding: a path of two rectangles (plain Lean).
-/
namespace Go.Proofs.Ytjcbmennepihaaa.Ab
set_option linter.unusedVariables false
set_option linter.unusedSimpArgs false
set_option maxRecDepth 100000
end Go.Proofs.Ytjcbmennepihaaa.Ab

/-
  Winding numbers of polygons, and of a polygon that is cut in two (plain Lean).
-/
namespace Go.Proofs.Ytjcbmennepihaaa.Ab
set_option linter.unusedVariables false
set_option linter.unusedSimpArgs false
set_option maxRecDepth 100000
end Go.Proofs.Ytjcbmennepihaaa.Ab

/-
  Paths: Shift, in the program.
-/
namespace Go.Proofs.Ytjcbmennepihaaa.Ab
set_option linter.unusedVariables false
set_option linter.unusedSimpArgs false
set_option maxRecDepth 100000
set_option maxHeartbeats 8000000
end Go.Proofs.Ytjcbmennepihaaa.Ab

/-
  Paths: Box, in both.
-/
namespace Go.Proofs.Ytjcbmennepihaaa.Ab
set_option linter.unusedVariables false
set_option linter.unusedSimpArgs false
set_option maxRecDepth 100000
set_option maxHeartbeats 8000000
end Go.Proofs.Ytjcbmennepihaaa.Ab

/-
  Paths: the box of a path, by its points (plain Lean).
-/
namespace Go.Proofs.Ytjcbmennepihaaa.Ab
set_option linter.unusedVariables false
set_option linter.unusedSimpArgs false
set_option maxRecDepth 100000
end Go.Proofs.Ytjcbmennepihaaa.Ab

/-
  Paths: Join, in both.
-/
namespace Go.Proofs.Ytjcbmennepihaaa.Ab
set_option linter.unusedVariables false
set_option linter.unusedSimpArgs false
set_option maxRecDepth 100000
set_option maxHeartbeats 8000000
end Go.Proofs.Ytjcbmennepihaaa.Ab

/-
  Paths: moved paths, and joined parts (plain Lean).
-/
namespace Go.Proofs.Ytjcbmennepihaaa.Ab
set_option linter.unusedVariables false
set_option linter.unusedSimpArgs false
set_option maxRecDepth 100000
end Go.Proofs.Ytjcbmennepihaaa.Ab

/-
  Winding numbers: reversing, shifting, beginning elsewhere (plain Lean).
-/
namespace Go.Proofs.Ytjcbmennepihaaa.Ab
set_option linter.unusedVariables false
set_option linter.unusedSimpArgs false
set_option maxRecDepth 100000
/-! ### parts without curves -/
def flatL (s : List St) : Prop := ∀ x ∈ s, x.k ≠ 3
theorem flatL_of {s : List St} : s.any isCurve = false ↔ flatL s := by
  rw [List.any_eq_false]
  constructor
  · intro h x hx e
    exact h x hx (by simp [isCurve, e])
  · intro h x hx e
    exact h x hx (by simpa [isCurve] using e)
theorem flat_parts {p : List St} (h : okP p = true) (hf : flatL p) : ∀ s ∈ prtS p, flatL s := by
  intro s hs x hx
  refine hf x ?_
  rw [← flat_prtS h]
  exact List.mem_flatten.2 ⟨s, hs, hx⟩
/-! ### shifting -/
end Go.Proofs.Ytjcbmennepihaaa.Ab

/-
  Paths: flattened drafts have no curves.
-/
namespace Go.Proofs.Ytjcbmennepihaaa.Ab
set_option linter.unusedVariables false
set_option linter.unusedSimpArgs false
set_option maxRecDepth 100000
theorem addR_kind {p : List St} {s x : St} (h : x ∈ addR p s) : x ∈ p ∨ x = s ∨ x.k = 1 := by
  unfold addR at h
  split at h
  · exact .inr (.inl (List.mem_singleton.1 h))
  · split at h
    · exact .inl h
    · split at h
      · rcases List.mem_append.1 h with h | h
        · exact .inl (List.dropLast_subset _ h)
        · exact .inr (.inl (List.mem_singleton.1 h))
      · split at h
        · rcases List.mem_append.1 h with h | h
          · rcases List.mem_append.1 h with h | h
            · exact .inl h
            · exact .inr (.inr (by rw [List.mem_singleton.1 h]; rfl))
          · exact .inr (.inl (List.mem_singleton.1 h))
        · rcases List.mem_append.1 h with h | h
          · exact .inl h
          · exact .inr (.inl (List.mem_singleton.1 h))
theorem ofAt_flat {L : List Sk} (h : ∀ t ∈ L, (stepOf t).k ≠ 3) (i : Nat) : flatL (ofAt L i) := by
  induction i with
  | zero => intro x hx; cases hx
  | succ i ih =>
    by_cases hi : i < L.length
    · rw [ofAt_succ hi]
      unfold ofStep
      split
      · intro x hx
        rcases addR_kind hx with g | g | g
        · exact ih x g
        · rw [g]
          unfold firstS
          split
          · show (1 : Int) ≠ 3; decide
          · exact h _ (List.getElem_mem hi)
        · omega
      · exact ih
    · have : ofAt L (i + 1) = ofAt L i := by unfold ofAt; rw [List.take_of_length_le (by omega), List.take_of_length_le (by omega)]
      rw [this]; exact ih
theorem flk_k (t : Sk) : (stepOf (flk t)).k ≠ 3 := by
  unfold flk
  split
  · unfold stepOf; simp [kd]
  · assumption
theorem foS_flat (l : List Sk) : flatL (foS l) := ofAt_flat (L := l.map flk) (fun t ht => by obtain ⟨s, _, rfl⟩ := List.mem_map.1 ht; exact flk_k s) 100
theorem ofS_okk (l : List Sk) : okP (ofS l) = true := by
  have key : ∀ (r : List Sk) (o : List St), okP o = true → okP (r.foldl ofStep o) = true := by
    intro r
    induction r with
    | nil => intro o h; exact h
    | cons t r ih =>
      intro o h
      refine ih _ ?_
      unfold ofStep
      split
      · rename_i he; exact add_ok he
      · exact h
  exact key _ [] rfl
theorem foS_ok (l : List Sk) : okP (foS l) = true := ofS_okk _
theorem ptK {p : List St} (h : okP p = true) : ptV p = .tup [plA (prtS p), .int .i64 0] := by unfold ptV ptE; rw [if_pos h, chkE_good h]
end Go.Proofs.Ytjcbmennepihaaa.Ab

/-
  Paths in closed code: what contracts answer.
-/
namespace Go.Proofs.Ytjcbmennepihaaa.Ab
set_option linter.unusedVariables false
set_option linter.unusedSimpArgs false
set_option maxRecDepth 100000
def deSt : AV → Option St
  | .agg [.int .i64 k, .int .i64 a, .int .i64 b, .int .i64 c, .int .i64 d, .int .i64 e, .int .i64 f] => some ⟨k, a, b, c, d, e, f⟩
  | _ => none
theorem deSt_ok {v : AV} {s : St} (h : deSt v = some s) : v = stA s := by
  unfold deSt at h
  split at h
  · cases h; rfl
  · cases h
def deSts : List AV → Option (List St)
  | [] => some []
  | v :: r => match deSt v with
    | some s => match deSts r with
      | some l => some (s :: l)
      | none => none
    | none => none
theorem deSts_ok : ∀ {l : List AV} {p : List St}, deSts l = some p → l = p.map stA
  | [], p, h => by cases h; rfl
  | v :: r, p, h => by
    unfold deSts at h
    split at h
    · rename_i s hs
      split at h
      · rename_i l hl
        cases h
        rw [List.map_cons, ← deSt_ok hs, ← deSts_ok hl]
      · cases h
    · cases h
def deP : AV → Option (List St)
  | .esl => some []
  | .isl w xs => match Nat.beq w 7 with
    | true => deSts xs
    | false => none
  | _ => none
theorem deP_ok {v : AV} {p : List St} (h : deP v = some p) : Le v (pA p) := by
  unfold deP at h
  split at h
  · cases h; exact .esl 7
  · rename_i w xs
    split at h
    · rename_i hw
      obtain rfl := Nat.eq_of_beq_eq_true hw
      rw [deSts_ok h]; exact .rfl _
    · cases h
  · cases h
def bi64 : Int → Bool
  | .ofNat k => Nat.blt k 9223372036854775808
  | .negSucc k => Nat.blt k 9223372036854775808
theorem bi64_ok {n : Int} (h : bi64 n = true) : inI64 n := by
  unfold bi64 at h
  unfold inI64
  split at h
  · rename_i k
    have : k < 9223372036854775808 := Nat.le_of_ble_eq_true h
    rw [Int.ofNat_eq_natCast]
    omega
  · rename_i k
    have : k < 9223372036854775808 := Nat.le_of_ble_eq_true h
    rw [Int.negSucc_eq]
    omega
def wfB (s : St) : Bool := bi64 s.k && (bi64 s.x0 && (bi64 s.y0 && (bi64 s.x1 && (bi64 s.y1 && (bi64 s.x2 && bi64 s.y2)))))
theorem wfB_ok {s : St} (h : wfB s = true) : wfS s := by
  simp only [wfB, Bool.and_eq_true] at h
  exact ⟨bi64_ok h.1, bi64_ok h.2.1, bi64_ok h.2.2.1, bi64_ok h.2.2.2.1, bi64_ok h.2.2.2.2.1, bi64_ok h.2.2.2.2.2.1, bi64_ok h.2.2.2.2.2.2⟩
def wfP : List St → Bool
  | [] => true
  | s :: r => wfB s && wfP r
theorem wfP_ok : ∀ {p : List St}, wfP p = true → ∀ s ∈ p, wfS s
  | [], _, s, hs => by cases hs
  | a :: r, h, s, hs => by
    simp only [wfP, Bool.and_eq_true] at h
    rcases List.mem_cons.1 hs with rfl | hs
    · exact wfB_ok h.1
    · exact wfP_ok h.2 s hs
def withP (v : AV) (g : List St → Option KR) : Option KR := match deP v with
  | some p => match wfP p && Nat.ble p.length 1000000 with
    | true => g p
    | false => none
  | none => none
theorem withP_ok {v : AV} {g : List St → Option KR} {r : KR} (h : withP v g = some r) : ∃ p, Le v (pA p) ∧ (∀ s ∈ p, wfS s) ∧ p.length ≤ 1000000 ∧ g p = some r := by
  unfold withP at h
  split at h
  · rename_i p hp
    split at h
    · rename_i hb
      simp only [Bool.and_eq_true] at hb
      exact ⟨p, deP_ok hp, wfP_ok hb.1, Nat.le_of_ble_eq_true hb.2, h⟩
    · cases h
  · cases h
end Go.Proofs.Ytjcbmennepihaaa.Ab

/-
  Strokes in closed code: the table of contracts.
-/
namespace Go.Proofs.Ytjcbmennepihaaa.Ab
set_option linter.unusedVariables false
set_option linter.unusedSimpArgs false
set_option maxRecDepth 100000
theorem kNogrL : nogr Try.prog = true := by kernel_rfl
theorem kMixedL : Try.prog.follows .mixedOrders = true := by kernel_rfl
def deIs : List AV → Option (List Int)
  | [] => some []
  | .int .i64 n :: r => match deIs r with
    | some l => some (n :: l)
    | none => none
  | _ :: _ => none
theorem deIs_ok : ∀ {l : List AV} {p : List Int}, deIs l = some p → l = p.map iA
  | [], p, h => by cases h; rfl
  | v :: r, p, h => by
    unfold deIs at h
    split at h
    · rename_i heq
      cases heq
    · rename_i n r' heq
      cases heq
      split at h
      · rename_i l hl
        cases h
        rw [List.map_cons, ← deIs_ok hl]; rfl
      · cases h
    · cases h
def deIL : AV → Option (List Int)
  | .esl => some []
  | .isl w xs => match Nat.beq w 1 with
    | true => deIs xs
    | false => none
  | _ => none
theorem deIL_ok {v : AV} {l : List Int} (h : deIL v = some l) : Le v (isA l) := by
  unfold deIL at h
  split at h
  · cases h; exact .esl 1
  · split at h
    · rename_i hw
      obtain rfl := Nat.eq_of_beq_eq_true hw
      rw [deIs_ok h]; exact .rfl _
    · cases h
  · cases h
def dePe : AV → Option Pe
  | .agg [.int .i64 w, .int .i64 c, .int .i64 j, .int .i64 l, ds, .int .i64 ph] => match deIL ds with
    | some d => match Nat.ble d.length 1000000 with
      | true => some ⟨w, c, j, l, d, ph⟩
      | false => none
    | none => none
  | _ => none
theorem dePe_ok {v : AV} {p : Pe} (h : dePe v = some p) : Le v (peA p) ∧ p.ds.length ≤ 1000000 := by
  unfold dePe at h
  split at h
  · rename_i w c j l ds ph
    split at h
    · rename_i d hd
      split at h
      · rename_i hb
        cases h
        refine ⟨.agg _ _ rfl fun i a b ha hb => ?_, Nat.le_of_ble_eq_true hb⟩
        match i with
        | 0 => cases ha; cases hb; exact .rfl _
        | 1 => cases ha; cases hb; exact .rfl _
        | 2 => cases ha; cases hb; exact .rfl _
        | 3 => cases ha; cases hb; exact .rfl _
        | 4 => cases ha; cases hb; exact deIL_ok hd
        | 5 => cases ha; cases hb; exact .rfl _
        | i + 6 => cases ha
      · cases h
    · cases h
  · cases h
def dePn : AV → Option Pn
  | .agg [.int .i64 x, .int .i64 y] => some (x, y)
  | _ => none
theorem dePn_ok {v : AV} {q : Pn} (h : dePn v = some q) : v = pnA q := by
  unfold dePn at h
  split at h
  · cases h; rfl
  · cases h
def kCov : List AV → Option KR
  | [v, pv, qv] => withP v fun l => match dePe pv with
    | some p => match dePn qv with
      | some q => some (.val (covV l p q))
      | none => none
    | none => none
  | _ => none
theorem kCov_ok : KGood Try.prog 21 kCov := KGood.weak fun l v hv => by
  unfold kCov at hv
  split at hv
  · obtain ⟨p, hL, hw, hl, hg⟩ := withP_ok hv
    split at hg
    · rename_i pe hpe
      split at hg
      · rename_i q hq
        cases hg
        exact ⟨_, .cons hL (.cons (dePe_ok hpe).1 (.cons (.of_eq (dePn_ok hq)) .nil)), pcovers_c p pe q hw hl (dePe_ok hpe).2⟩
      · cases hg
    · cases hg
  · cases hv
def kPen : List AV → Option KR
  | [pv] => match dePe pv with
    | some p => some (.val (.int .i64 (penE p)))
    | none => none
  | _ => none
theorem kPen_ok : KGood Try.prog 16 kPen := KGood.weak fun l v hv => by
  unfold kPen at hv
  split at hv
  · split at hv
    · rename_i pe hpe
      cases hv
      exact ⟨_, .cons (dePe_ok hpe).1 .nil, lchk_c pe (dePe_ok hpe).2⟩
    · cases hv
  · cases hv
def ktLine : KTab := [(21, kCov), (16, kPen)]
theorem ktLine_ok : KOK Try.prog ktLine := ⟨kCov_ok, kPen_ok, trivial⟩
end Go.Proofs.Ytjcbmennepihaaa.Ab

