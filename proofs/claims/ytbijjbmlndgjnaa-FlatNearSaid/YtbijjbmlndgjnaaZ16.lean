import Derived.Test.YtbijjbmlndgjnaaZ14
import Derived.Test.YtbijjbmlndgjnaaZ7
import Derived.Test.YtbijjbmlndgjnaaZ15
/-
  ABSTRACT EVALUATOR, part 47: loops that are under way; a block lasts that an element of a row names; renaming of rows of readings.
-/
namespace Go.Proofs.Ytbijjbmlndgjnaa.Ab
set_option linter.unusedVariables false
set_option linter.unusedSimpArgs false

section
variable {X : Nat → Prop} {P : Program} {B : Nat} {W0 : World} {O0 : Nat → Prop} {ρ0 ρ : Nat → Option Nat} {a : Act} {w : World} {md : Md} {K : List Item} {s s' : AS} {R : AV → Hp → Nat → Prop}
variable {fr fr' : Fr} {lf : List (Nat × Cnd × AV)} {tg : List (Nat × Bool)} {hp hp' : Hp} {nx nx' nt : Nat}

/-- A LOOP, between two rounds. -/
theorem go_loopJ {ι : Type} {c : Code} (S : ι → AS) (I : ι → Prop) (μ : ι → Nat) (i0 : ι) (h0 : I i0) (hw : Weak P md B s (S i0))
    (hs : ∀ i, I i → (∀ j, I j → μ j < μ i → AGo P md B (.inLoop c :: K) (S j) R) → AGo P md B (.code c :: .inLoop c :: K) (S i) R) : AGo P md B (.inLoop c :: K) s R := by
  have key : ∀ n i, μ i = n → I i → AGo P md B (.code c :: .inLoop c :: K) (S i) R := by
    intro n
    induction n using Nat.strongRecOn with
    | _ n ih =>
      intro i hn hi
      exact hs i hi fun j hj hlt => go_again (ih (μ j) (hn ▸ hlt) j rfl hj)
  exact hw _ _ (go_again (key _ i0 rfl h0))

theorem go_loopI {ι : Type} {c : Code} {frk : Fr} (vs : ι → Fr) (H : ι → Hp) (N : ι → Nat) (I : ι → Prop) (μ : ι → Nat) (i0 : ι) (hkeep : spine (keepF (doms (vs i0) ++ wr c) fr) = some frk)
    (h0 : I i0) (hf : subF (vs i0) fr) (hH : hp = H i0) (hN : nx = N i0)
    (hs : ∀ i, I i → (∀ j, I j → μ j < μ i → AGo P md B (.inLoop c :: K) ⟨vs j ++ frk, [], [], H j, N j, nt⟩ R) → AGo P md B (.code c :: .inLoop c :: K) ⟨vs i ++ frk, [], [], H i, N i, nt⟩ R) :
    AGo P md B (.inLoop c :: K) ⟨fr, lf, tg, hp, nx, nt⟩ R := by
  subst hH hN
  obtain rfl := spine_eq hkeep
  refine go_loopJ (fun i => ⟨vs i ++ keepF (doms (vs i0) ++ wr c) fr, [], [], H i, N i, nt⟩) I μ i0 h0 (fun K R hk => go_frame (fun t v ht => ?_) hk) hs
  rw [lk_appF] at ht
  split at ht
  · rename_i u hu
    obtain rfl := Option.some.inj ht
    exact subF_lk hf t _ hu
  · exact (keepF_lk ht).1

/-- A TEST whose two ways come together: behind it the state is S2 (shown once). -/
theorem go_join {c : Operand} {x y : Code} {t : Nat} {b : Bool} (fr2 : Fr) (hp2 : Hp) (nx2 : Nat) (hc : c = .tmp t) (hv : lk s.fr t = some (.bool b))
    (h1 : b = true → AGo P md B K ⟨fr2, [], [], hp2, nx2, s.nt⟩ R → AGo P md B (.code x :: K) s R) (h2 : b = false → AGo P md B K ⟨fr2, [], [], hp2, nx2, s.nt⟩ R → AGo P md B (.code y :: K) s R)
    (hk : AGo P md B K ⟨fr2, [], [], hp2, nx2, s.nt⟩ R) : AGo P md B (.code (.cond c x y) :: K) s R := go_if hc hv (fun h => h1 h hk) (fun h => h2 h hk)

/-- AN OPERATION THAT ONLY READS, its value given by a proof. -/
theorem go_eff {ops : Array Oper} {i : Nat} {rest : List Nat} {lf' : List (Nat × Cnd × AV)} {tg2 : List (Nat × Bool)} {d : Nat} {o : Oper} (v : AV) (obs : List Ob)
    (hi : ops[i]? = some o) (hg : o.guard = none) (hd : o.dst = some d) (hdn : Nat.blt d nt = true) (hlf : spine (delL lf d) = some lf') (htg : spine (del tg d) = some tg2)
    (hE : effOf P (getO lf fr []) o.op = some (Eff.pure v obs)) (hobs : AllL obs)
    (hk : AGo P md B (.inRegion ops rest :: K) ⟨(d, v) :: fr, lf', tg2, hp, nx, nt⟩ R) : AGo P md B (.inRegion ops (i :: rest) :: K) ⟨fr, lf, tg, hp, nx, nt⟩ R :=
  go_op (set := []) (new := none) (val := fun _ => v) hi hg hd hdn (effOf_noDefer hE) hlf htg (fun X w ρ e H hr => effOf_ok H hr hE [] [] none (fun _ => v) obs rfl rfl hobs) rfl hk

/-- TWO STATES that come together (a drawn region that makes two blocks). -/
theorem all_two {s1 s2 : AS} (fr2 : Fr) (hp2 : Hp) (nx2 : Nat) (h1 : AGo P md B K ⟨fr2, [], [], hp2, nx2, s1.nt⟩ R → AGo P md B K s1 R) (h2 : AGo P md B K ⟨fr2, [], [], hp2, nx2, s1.nt⟩ R → AGo P md B K s2 R)
    (hk : AGo P md B K ⟨fr2, [], [], hp2, nx2, s1.nt⟩ R) : AllS (fun s' => AGo P md B K s' R) [s1, s2] := ⟨h1 hk, h2 hk⟩

/-- one element of a row reads otherwise -/
theorem HRep.rereadR (H : HRep X w ρ nx hp) {m wd j : Nat} {xs : List AV} {v v' : AV} (hm : lk hp m = some (.row wd xs)) (hj : xs[j]? = some v) (hc1 : v.cells = [v]) (hc2 : v'.cells = [v'])
    (h : ∀ u, Rep w (Own X ρ hp) ρ nx v u → Rep w (Own X ρ hp) ρ nx v' u) : HRep X w ρ nx (upd hp m (.row wd (xs.set j v'))) where
  lt k ab hk := by
    by_cases h : k = m
    · subst h; exact H.lt k _ hm
    · rw [lk_upd_ne _ _ h] at hk; exact H.lt k ab hk
  blk k ab hk := by
    have ho : ∀ b, Own X ρ (upd hp m (.row wd (xs.set j v'))) b → Own X ρ hp b := fun b hb => (own_upd hm b).1 hb
    have E : Evo X w (Own X ρ hp) ρ nx w (Own X ρ (upd hp m (.row wd (xs.set j v')))) ρ nx := Evo.drop ho
    have hjl := (List.getElem?_eq_some_iff.1 hj).1
    by_cases hkm : k = m
    · subst hkm
      rw [lk_upd_same] at hk
      obtain rfl := Option.some.inj hk
      rcases H.blk k _ hm with ⟨b, hb, hbr⟩ | ⟨_, wd', hw⟩
      · cases hbr with
        | row _ _ c e fz hh hz hl hw hr =>
          refine .inl ⟨b, hb, .row wd _ c e fz hh hz (by rw [List.length_set]; exact hl) (fun x hx => ?_) fun i x k a u hx ha hu => ?_⟩
          · obtain ⟨i, hi⟩ := List.getElem?_of_mem hx
            rw [List.getElem?_set] at hi
            split at hi
            · simp only [hjl, if_true, Option.some.injEq] at hi
              subst hi
              rw [hc2, ← hw v (List.mem_of_getElem? hj), hc1]; rfl
            · exact hw x (List.mem_of_getElem? hi)
          · rw [List.getElem?_set] at hx
            split at hx
            · rename_i hij
              subst hij
              simp only [hjl, if_true, Option.some.injEq] at hx
              subst hx
              rw [hc2] at ha
              match k with
              | 0 =>
                simp only [List.getElem?_cons_zero, Option.some.injEq] at ha
                subst ha
                exact (h u (hr j v 0 v u hj (by rw [hc1]; rfl) hu)).mono E
              | k + 1 => simp at ha
            · exact (hr i x k a u hx ha hu).mono E
      · cases hw; simp at hj
    · rw [lk_upd_ne _ _ hkm] at hk
      rcases H.blk k ab hk with ⟨b, hb, hbr⟩ | h0
      · exact .inl ⟨b, hb, hbr.mono E rfl⟩
      · exact .inr h0
  xlt := H.xlt
  disj k ab b hk hb := by
    by_cases h : k = m
    · subst h; exact H.disj k _ b hm hb
    · rw [lk_upd_ne _ _ h] at hk; exact H.disj k ab b hk hb
  inj i j' a1 a2 b h1 h2 h3 h4 := by
    have f : ∀ i a1, lk (upd hp m (.row wd (xs.set j v'))) i = some a1 → ∃ a, lk hp i = some a := by
      intro i a1 h1
      by_cases h : i = m
      · subst h; exact ⟨_, hm⟩
      · rw [lk_upd_ne _ _ h] at h1; exact ⟨a1, h1⟩
    obtain ⟨c1, e1⟩ := f i a1 h1
    obtain ⟨c2, e2⟩ := f j' a2 h2
    exact H.inj i j' c1 c2 b e1 e2 h3 h4

/-- A BLOCK IS FROZEN that element j of the row r names, and the slots ts. -/
theorem go_frzRow (n r j : Nat) (ts : List Nat) (v : AV) {ab : AB} {wd : Nat} {xs ys : List AV} {v' : AV} {o o1 : List Ob} {fr' fr2 : Fr} {h2 : Hp}
    (hn : lk s.hp n = some ab) (hr : lk (del s.hp n) r = some (.row wd xs)) (hv : frzV n ab v = some (v', o)) (hfr : frzSlots n ab s.fr ts = some (fr', o1)) (hfs : spine fr' = some fr2) (hc1 : v.cells = [v]) (hc2 : v'.cells = [v'])
    (hj : xs[j]? = some v) (hy : xs.set j v' = ys) (hh : spine (upd (del s.hp n) r (.row wd ys)) = some h2) (ho : AllL o) (ho1 : AllL o1)
    (hk : AGo P md B K ⟨fr2, [], [], h2, s.nx, s.nt⟩ R) : AGo P md B K s R := by
  subst hy
  obtain rfl := spine_eq hfs
  obtain rfl := spine_eq hh
  refine go_sim (fun X W0 O0 ρ0 ρ a w S => ⟨ρ, ?_⟩) hk
  have H1 := S.heap.del n
  have H' := H1.rereadR hr hj hc1 hc2 fun u hu => frzV_ok S.heap hn hv ho hu
  have hown : ∀ b, Own X ρ (upd (del s.hp n) r (.row wd (xs.set j v'))) b ↔ Own X ρ (del s.hp n) b := fun b => own_upd hr b
  have E : Evo X w (Own X ρ s.hp) ρ s.nx w (Own X ρ (upd (del s.hp n) r (.row wd (xs.set j v')))) ρ s.nx := Evo.drop fun b hb => by
    rcases (hown b).1 hb with h | ⟨m, ab, hm, hb⟩
    · exact .inl h
    · exact .inr ⟨m, ab, del_sub s.hp n m ab hm, hb⟩
  have F := frzSlots_ok S.heap hn S.fr ts _ _ hfr ho1
  exact { size := S.size
          fr := fun t v ht => by
            obtain ⟨u, hu, hr⟩ := F t v ht
            exact ⟨u, hu, hr.ownEq fun b hb => (hown b).1 hb⟩
          lf := fun _ _ _ h => (by cases h)
          tg := fun _ _ h => (by cases h)
          heap := H'
          base := S.base.step E rfl rfl
          le := S.le
          names := S.names
          marks := S.marks.step E }
end

theorem allOne1 {v : AV} (h : allOne v.cells = true) : ∀ x ∈ [v], allOne x.cells = true := by
  intro x hx; rw [List.mem_singleton] at hx; subst hx; exact h
theorem allOne2 {v u : AV} (h : allOne v.cells = true) (g : allOne u.cells = true) : ∀ x ∈ [v, u], allOne x.cells = true := by
  intro x hx
  simp only [List.mem_cons, List.not_mem_nil, or_false] at hx
  rcases hx with rfl | rfl
  · exact h
  · exact g
/-- readings keep their names -/
theorem renL_pure {σ : List (Nat × Nat)} {B : Nat} : ∀ (l r : List AV) {r' : List AV} {o : List Ob}, (∀ x ∈ l, ∃ p, renV σ B x = some (x, p) ∧ AllL p) → renL σ B r = some (r', o) → AllL o → ∃ p, renL σ B (l ++ r) = some (l ++ r', p) ∧ AllL p
  | [], r, r', o, _, h, ho => ⟨o, h, ho⟩
  | x :: l, r, r', o, hl, h, ho => by
    obtain ⟨p1, e1, a1⟩ := hl x List.mem_cons_self
    obtain ⟨p2, e2, a2⟩ := renL_pure l r (fun y hy => hl y (List.mem_cons_of_mem _ hy)) h ho
    refine ⟨p1 ++ p2, ?_, AllL_append.2 ⟨a1, a2⟩⟩
    simp only [List.cons_append, renL, e1, e2]
theorem renV_isl {σ : List (Nat × Nat)} {B w : Nat} {xs : List AV} (h : pureBs xs = true) : ∃ p, renV σ B (.isl w xs) = some (.isl w xs, p) ∧ AllL p :=
  ⟨_, rfl, h, trivial⟩
end Go.Proofs.Ytbijjbmlndgjnaa.Ab
/-
  Flattening: the points of a curve, in the law FlatNear.
-/
namespace Go.Proofs.Ytbijjbmlndgjnaa.Ab
set_option linter.unusedVariables false
set_option linter.unusedSimpArgs false
set_option maxRecDepth 100000
set_option maxHeartbeats 8000000

theorem floor22_go (x d : Int) (hx : -9000000000000000000 ≤ x ∧ x ≤ 9000000000000000000) (hd : 1 ≤ d ∧ d ≤ 4000000000000000000) : AGo Try.prog (.call Try.f95) 0 [.code (body Try.f95)] ⟨argFr 0 [.int .i64 x, .int .i64 d], [], [], [], 0, Try.f95.ntmps⟩ (fun av _ _ => av = .int .i64 (x / d)) := by
  have h1 : x = d * x.tdiv d + x.tmod d := (Int.mul_tdiv_add_tmod x d).symm
  have h2 : x.tmod d < d := Int.tmod_lt_of_pos x (by omega)
  have h3 : -d < x.tmod d := Int.lt_tmod_of_pos x (by omega)
  have h4 : -9000000000000000000 ≤ x.tdiv d ∧ x.tdiv d ≤ 9000000000000000000 := by
    have := Int.natAbs_tdiv_le_natAbs x d
    omega
  repeat' first | (refine go_ift rfl rfl rfl ?_) | (refine go_iff rfl rfl rfl ?_) | (refine go_loop_in ?_) | (refine go_again ?_) | (refine go_runs rfl rfl ?_ ?_; first | exact trivial | (simp only [AllL, AllL2, Ob2.sem, elemO, lookO, ob, implL, inI64, bl, and_true, true_and]; first | omega | ((repeat' (first | apply And.intro | intro _)) <;> first | omega | rfl | decide | (rename_i h; revert h; decide) | decide +kernel)))
  refine go_if rfl rfl (fun h => ?_) (fun h => ?_) <;> try simp only [bl] at h
  · repeat' first | (refine go_ift rfl rfl rfl ?_) | (refine go_iff rfl rfl rfl ?_) | (refine go_loop_in ?_) | (refine go_again ?_) | (refine go_runs rfl rfl ?_ ?_; first | exact trivial | (simp only [AllL, AllL2, Ob2.sem, elemO, lookO, ob, implL, inI64, bl, and_true, true_and]; first | omega | ((repeat' (first | apply And.intro | intro _)) <;> first | omega | rfl | decide | (rename_i h; revert h; decide) | decide +kernel)))
    exact go_ret rfl (by congr 1; symm; rw [Int.ediv_eq_iff_of_pos (by omega)]; rw [Int.sub_mul, Int.mul_comm]; omega)
  · repeat' first | (refine go_ift rfl rfl rfl ?_) | (refine go_iff rfl rfl rfl ?_) | (refine go_loop_in ?_) | (refine go_again ?_) | (refine go_runs rfl rfl ?_ ?_; first | exact trivial | (simp only [AllL, AllL2, Ob2.sem, elemO, lookO, ob, implL, inI64, bl, and_true, true_and]; first | omega | ((repeat' (first | apply And.intro | intro _)) <;> first | omega | rfl | decide | (rename_i h; revert h; decide) | decide +kernel)))
    exact go_ret rfl (by congr 1; symm; rw [Int.ediv_eq_iff_of_pos (by omega)]; rw [Int.mul_comm]; omega)
theorem floor22_c (x d : Int) (hx : -9000000000000000000 ≤ x ∧ x ≤ 9000000000000000000) (hd : 1 ≤ d ∧ d ≤ 4000000000000000000) : APure Try.prog 95 [.int .i64 x, .int .i64 d] (.int .i64 (x / d)) :=
  pure_of Try.func95 rfl rfl rfl (floor22_go x d hx hd) rfl rfl

structure Wt2 (i j : Int) : Prop where
  ii : 0 ≤ i * i ∧ i * i ≤ 4194304
  iii : 0 ≤ i * i * i ∧ i * i * i ≤ 8589934592
  i3 : 0 ≤ 3 * i ∧ 3 * i ≤ 6144
  ii3 : 0 ≤ 3 * i * i ∧ 3 * i * i ≤ 12582912
  iij : 0 ≤ 3 * i * i * j ∧ 3 * i * i * j ≤ 25769803776
  ij3 : 0 ≤ 3 * i * j ∧ 3 * i * j ≤ 12582912
  ijj : 0 ≤ 3 * i * j * j ∧ 3 * i * j * j ≤ 25769803776
  jj : 0 ≤ j * j ∧ j * j ≤ 4194304
  jjj : 0 ≤ j * j * j ∧ j * j * j ≤ 8589934592
theorem wts2 {i j : Int} (hi : 0 ≤ i ∧ i ≤ 2048) (hj : 0 ≤ j ∧ j ≤ 2048) : Wt2 i j := by
  have h3 : 0 ≤ 3 * i ∧ 3 * i ≤ 6144 := by omega
  have a := mul_nn hi hi
  have b := mul_nn h3 hi
  have c := mul_nn h3 hj
  have d := mul_nn hj hj
  exact ⟨a, mul_nn a hi, h3, b, mul_nn b hj, c, mul_nn c hj, d, mul_nn d hj⟩
theorem wprod2 {w a : Int} (hw : 0 ≤ w ∧ w ≤ 25769803776) (ha : -16384 ≤ a ∧ a ≤ 16384) : -422212465065984 ≤ w * a ∧ w * a ≤ 422212465065984 := by
  have := mul_bdA (a := w) (b := a) (A := 25769803776) (C := 16384) (by omega) ha
  omega

theorem at22_go (c : Cv) (k n : Int) (h : CvB c) (hn : 1 ≤ n ∧ n ≤ 2048) (hk : 0 ≤ k ∧ k ≤ n) : AGo Try.prog (.call Try.f50) 0 [.code (body Try.f50)] ⟨argFr 0 [cvA c, .int .i64 k, .int .i64 n], [], [], [], 0, Try.f50.ntmps⟩
    (fun av _ _ => av = .tup [.int .i64 (atS c.x0 c.x1 c.x2 c.x3 k n), .int .i64 (atS c.y0 c.y1 c.y2 c.y3 k n)]) := by
  obtain ⟨q1, q2, q3, q4, q5, q6, q7, q8, q9⟩ := wts2 (i := n - k) (j := k) (by omega) (by omega)
  have n2 := mul_nn (a := n) (b := n) (A := 2048) (C := 2048) (by omega) (by omega)
  have n3 := mul_nn (a := n * n) (b := n) (A := 4194304) (C := 2048) (by omega) (by omega)
  have np : 0 < n * n * n := Int.mul_pos (Int.mul_pos (by omega) (by omega)) (by omega)
  obtain ⟨h0, h1, h2, h3, h4, h5, h6, h7⟩ := h
  have x0 := wprod2 (w := (n - k) * (n - k) * (n - k)) (by omega) h0
  have x1 := wprod2 (w := 3 * (n - k) * (n - k) * k) (by omega) h2
  have x2 := wprod2 (w := 3 * (n - k) * k * k) (by omega) h4
  have x3 := wprod2 (w := k * k * k) (by omega) h6
  have y0 := wprod2 (w := (n - k) * (n - k) * (n - k)) (by omega) h1
  have y1 := wprod2 (w := 3 * (n - k) * (n - k) * k) (by omega) h3
  have y2 := wprod2 (w := 3 * (n - k) * k * k) (by omega) h5
  have y3 := wprod2 (w := k * k * k) (by omega) h7
  have fx := floor22_c (16 * wsum c.x0 c.x1 c.x2 c.x3 k n) (n * n * n) (by unfold wsum; omega) (by omega)
  have fy := floor22_c (16 * wsum c.y0 c.y1 c.y2 c.y3 k n) (n * n * n) (by unfold wsum; omega) (by omega)
  repeat' first | (refine go_ift rfl rfl rfl ?_) | (refine go_iff rfl rfl rfl ?_) | (refine go_loop_in ?_) | (refine go_again ?_) | (refine go_runs rfl rfl ?_ ?_; first | exact trivial | (simp only [AllL, AllL2, Ob2.sem, elemO, lookO, ob, implL, inI64, bl, and_true, true_and]; first | omega | ((repeat' (first | apply And.intro | intro _)) <;> first | omega | rfl | decide | (rename_i h; revert h; decide) | decide +kernel)))
  refine go_drawA [(29, .val (.int .i64 (atS c.x0 c.x1 c.x2 c.x3 k n))), (59, .val (.int .i64 (atS c.y0 c.y1 c.y2 c.y3 k n)))] mixed rfl ?_ ?_
  · repeat' (first | exact trivial | exact rfl | exact fx | exact fy | apply And.intro | omega | (show _ ≠ _; decide) | (show inI64 _; unfold inI64; omega) | (simp only [AllL, AllL2, Ob2.sem, elemO, lookO, ob, implL, inI64]; omega) | exact allOne1 rfl | (simp; done) | (simp; omega))
  repeat' first | (refine go_ift rfl rfl rfl ?_) | (refine go_iff rfl rfl rfl ?_) | (refine go_loop_in ?_) | (refine go_again ?_) | (refine go_runs rfl rfl ?_ ?_; first | exact trivial | (simp only [AllL, AllL2, Ob2.sem, elemO, lookO, ob, implL, inI64, bl, and_true, true_and]; first | omega | ((repeat' (first | apply And.intro | intro _)) <;> first | omega | rfl | decide | (rename_i h; revert h; decide) | decide +kernel)))
  exact go_ret rfl (by rfl)
theorem at22_c (c : Cv) (k n : Int) (h : CvB c) (hn : 1 ≤ n ∧ n ≤ 2048) (hk : 0 ≤ k ∧ k ≤ n) : APure Try.prog 50 [cvA c, .int .i64 k, .int .i64 n] (.tup [.int .i64 (atS c.x0 c.x1 c.x2 c.x3 k n), .int .i64 (atS c.y0 c.y1 c.y2 c.y3 k n)]) :=
  pure_of Try.func50 rfl rfl rfl (at22_go c k n h hn hk) rfl rfl

/-! ### a path of one curve -/
def oneP (c : Cv) : List St := [toS 1 c.x0 c.y0, ⟨3, c.x1, c.y1, c.x2, c.y2, c.x3, c.y3⟩]
theorem one_ok {c : Cv} (h : CvB c) : okP (oneP c) = true := by
  obtain ⟨h0, h1, h2, h3, h4, h5, h6, h7⟩ := h
  have d0 : stepB (toS 1 c.x0 c.y0) = true := to_ok h0 h1
  have d1 : stepB ⟨3, c.x1, c.y1, c.x2, c.y2, c.x3, c.y3⟩ = true := by
    simp only [stepB, decide_eq_true_eq]
    exact .inr (.inl ⟨rfl, ⟨h2, h3⟩, ⟨h4, h5⟩, h6, h7⟩)
  simp [okP, oneP, rightB, d1, toS]
  exact d0
theorem one_cv (c : Cv) : cvS (curAt (oneP c) 1) ⟨3, c.x1, c.y1, c.x2, c.y2, c.x3, c.y3⟩ = c := rfl
theorem one_cntE {c : Cv} (h : CvB c) {t : Int} (ht : 1 ≤ t ∧ t ≤ 1600) : cntE (oneP c) t = 0 := by
  unfold cntE; rw [if_pos (one_ok h), if_neg (by omega)]
theorem one_cnt {c : Cv} (h : CvB c) {t : Int} (ht : 1 ≤ t ∧ t ≤ 1600) : cntN (oneP c) t = 1 + pcs c t := by
  unfold cntN; rw [if_pos (one_cntE h ht)]
  show 0 + cnt1 (oneP c) t 0 + cnt1 (oneP c) t 1 = _
  rw [show cnt1 (oneP c) t 0 = 1 from rfl, show cnt1 (oneP c) t 1 = pcs c t from rfl]
  omega
theorem one_flE {c : Cv} (h : CvB c) {t : Int} (ht : 1 ≤ t ∧ t ≤ 1600) : flE (oneP c) t = if 300 < 1 + pcs c t then 26 else 0 := by
  unfold flE; rw [if_pos (one_cntE h ht), one_cnt h ht]
theorem one_flP {c : Cv} (h : CvB c) {t : Int} (ht : 1 ≤ t ∧ t ≤ 1600) (hn : 1 + pcs c t ≤ 300) : flP (oneP c) t = toS 1 c.x0 c.y0 :: ptsTo c (pcs c t) (pcs c t).toNat := by
  have e : flE (oneP c) t = 0 := by rw [one_flE h ht, if_neg (by omega)]
  unfold flP; rw [if_pos e]; rfl
/-- point number j of the flattened curve -/
theorem one_get {c : Cv} (h : CvB c) {t : Int} (ht : 1 ≤ t ∧ t ≤ 1600) (hn : 1 + pcs c t ≤ 300) {j : Nat} (hj : (j : Int) ≤ pcs c t) :
    (flP (oneP c) t)[j]? = some ⟨if j = 0 then 1 else 2, epx c j (pcs c t), epy c j (pcs c t), 0, 0, 0, 0⟩ := by
  have hp := pcs_le h ht
  rw [one_flP h ht hn]
  cases j with
  | zero =>
    rw [List.getElem?_cons_zero]
    unfold epx epy
    rw [show ((0 : Nat) : Int) = 0 from rfl, wgh_zero hp.1, wgh_zero hp.1]; rfl
  | succ j =>
    rw [List.getElem?_cons_succ]
    unfold ptsTo
    rw [List.getElem?_map, List.getElem?_range (by omega)]; rfl
theorem one_len {c : Cv} (h : CvB c) {t : Int} (ht : 1 ≤ t ∧ t ≤ 1600) (hn : 1 + pcs c t ≤ 300) : ((flP (oneP c) t).length : Int) = pcs c t + 1 := by
  have hp := pcs_le h ht
  rw [one_flP h ht hn]; simp [ptsTo]; omega
theorem pcs_256 {c : Cv} (h : CvB c) {t : Int} (ht : 1 ≤ t ∧ t ≤ 1600) (hn : 1 + pcs c t ≤ 300) : 1 ≤ pcs c t ∧ pcs c t ≤ 256 := by
  obtain ⟨j, hj, e⟩ := pcs_bnd h ht
  rcases pow_lt hj with ⟨q, _⟩ | ⟨q, _⟩ | ⟨q, _⟩ | ⟨q, _⟩ | ⟨q, _⟩ | ⟨q, _⟩ | ⟨q, _⟩ | ⟨q, _⟩ | ⟨q, _⟩ | ⟨q, _⟩ <;> omega
end Go.Proofs.Ytbijjbmlndgjnaa.Ab
