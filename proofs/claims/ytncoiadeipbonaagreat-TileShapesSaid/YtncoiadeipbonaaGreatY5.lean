import Derived.Test.YtncoiadeipbonaaGreatY4
import Derived.MapKept
namespace Go.Proofs.YtncoiadeipbonaaGreat.Ab
set_option linter.unusedVariables false
set_option linter.unusedSimpArgs false
section
section
variable {X:Nat→Prop} {P:Program} {w:World} {ρ:Nat→Option Nat} {nx:Nat} {hp:Hp}
def ZfB (w:World) (own:Nat→Prop) (ρ:Nat→Option Nat) (nx:Nat) (g:Operand→Option AV) (e:Operand→Value):Prop:=∀ x v,g x=some v→Rep w own ρ nx v (e x)
theorem ZhQ {own:Nat→Prop} {g:Operand→Option AV} {e:Operand→Value} (hg:ZfB w own ρ nx g e) {d:Int} {o:Option Operand} {n:Int} (h:ZcW g d o=some n) :
 (o=none∧n=d)∨(∃ x,o=some x∧e x=.int .i64 n):=by
 unfold ZcW at h
 split at h
 ·exact .inl ⟨rfl,(Option.some.inj h).symm⟩
 ·rename_i x
  split at h
  ·rename_i m hm
   obtain rfl:=Option.some.inj h
   have:=hg _ _ hm
   refine .inr ⟨x,rfl,?_⟩
   revert this
   generalize e x=v
   intro this
   cases this
   rfl
  ·cases h
theorem ZbF {own:Nat→Prop} {g:Operand→Option AV} {e:Operand→Value} (hg:ZfB w own ρ nx g e):∀ {xs:List Operand} {as:List AV},Zcm g xs=some as→Reps w own ρ nx as (xs.map e)
 | [],as,h=>by simp [Zcm] at h;subst h;exact Reps.nil _ _ _ _
 | x::r,as,h=>by
   simp only [Zcm] at h
   split at h
   ·rename_i v hv
    split at h
    ·rename_i l hl
     obtain rfl:=Option.some.inj h
     exact Reps.cons (hg _ _ hv) (ZbF hg hl)
    ·cases h
   ·cases h
theorem ZcQ {own:Nat→Prop} {g:Operand→Option AV} {e:Operand→Value} (hg:ZfB w own ρ nx g e):∀ {xs:List (Nat × Operand)} {ps:List (Nat × AV)},ZdL g xs=some ps →
 Zhu w own ρ nx ps (xs.map fun (i,x)=>(i,e x))
 | [],ps,h=>by simp [ZdL] at h;subst h;trivial
 | (i,x)::r,ps,h=>by
   simp only [ZdL] at h
   split at h
   ·rename_i v hv
    split at h
    ·rename_i l hl
     obtain rfl:=Option.some.inj h
     exact ⟨rfl,hg _ _ hv,ZcQ hg hl⟩
    ·cases h
   ·cases h
theorem ZbC {isSlice:Bool} {len cap:Nat} {l h:Int} {lo hi:Option Value} (hlo:(lo=none∧l=0)∨lo=some (.int .i64 l)) (hhi:(hi=none∧h=len)∨hi=some (.int .i64 h))
 (h0:0≤l) (h1:l≤h) (h2:h≤(len:Int)) (h3:len≤cap):(Instr.sliceBounds isSlice len cap lo hi none).run P w=.ok (l.toNat,h.toNat,cap) w:=by
 have hh:(h.toNat:Int)=h:=Int.toNat_of_nonneg (by omega)
 rcases hhi with ⟨rfl,rfl⟩|rfl
 ·rcases hlo with ⟨rfl,rfl⟩|rfl
  ·simp [Instr.sliceBounds]
  ·simp [Instr.sliceBounds,run_sliceBound w .i64 l len .sliceB h0 (by omega)]
 ·have e1:=run_sliceBound (P:=P) w .i64 h cap (if isSlice then .sliceAcap else .sliceAlen) (by omega) (by omega)
  rcases hlo with ⟨rfl,rfl⟩|rfl
  ·simp [Instr.sliceBounds,e1]
  ·have e2:=run_sliceBound (P:=P) w .i64 l h.toNat .sliceB h0 (by omega)
   simp [Instr.sliceBounds,e1,e2]
theorem ZgI {len cap:Nat} {h m:Int} {hi mx:Value} (hhi:hi=.int .i64 h) (hmx:mx=.int .i64 m)
 (h0:0≤h) (h1:h=m) (h2:h≤(cap:Int)):(Instr.sliceBounds true len cap none (some hi) (some mx)).run P w=.ok (0,h.toNat,h.toNat) w:=by
 subst h1
 subst hhi
 subst hmx
 have e0:((h.toNat:Nat):Int)=h:=Int.toNat_of_nonneg h0
 have e1:=run_sliceBound (P:=P) w .i64 h cap .slice3Acap h0 h2
 have e2:=run_sliceBound (P:=P) w .i64 h h.toNat .slice3B h0 (by omega)
 simp [Instr.sliceBounds,e1,e2]
theorem Zd5 {wd:Nat} (i k j:Nat):(i+k)*wd+j=i*wd+(k*wd+j):=by
 rw [Nat.add_mul,Nat.add_assoc]
theorem ZoW {cs:List AV} {s:Nat}:∀ {n c:Nat} {xs:List AV},grp cs s c n=some xs→xs.length=n∧∀ (i:Nat) (x:AV),xs[i]?=some x→x.cells.length=s∧∀ k,k<s→x.cells[k]?=cs[c+i*s+k]?
 | 0,c,xs,h=>by
   obtain rfl:=Option.some.inj h
   exact ⟨rfl,fun i x hx=>by simp at hx⟩
 | n+1,c,xs,h=>by
   simp only [grp] at h
   split at h
   ·rename_i l hl
    split at h
    ·rename_i r hr
     obtain rfl:=Option.some.inj h
     obtain ⟨h1,h2⟩:=Zex hl
     obtain ⟨g1,g2⟩:=ZoW hr
     refine ⟨by simp [g1],fun i x hx=>?_⟩
     cases i with
     | zero =>
       simp only [List.getElem?_cons_zero,Option.some.injEq] at hx
       subst hx
       rw [ZgA fun v _ ho=>Zjl ho]
       exact ⟨h1,fun k hk=>by rw [Nat.zero_mul,Nat.add_zero];exact (h2 k hk).symm⟩
     | succ i =>
       obtain ⟨q1,q2⟩:=g2 i x (by simpa using hx)
       refine ⟨q1,fun k hk=>?_⟩
       rw [q2 k hk,Nat.add_mul,Nat.one_mul]
       congr 1;omega
    ·cases h
   ·cases h
theorem ZsQ (H:HRep X w ρ nx hp) {g:Operand→Option AV} {e:Operand→Value} (hg:ZfB w (Own X ρ hp) ρ nx g e) {t:TypeId} {lo hi:Option Operand} {a:AV} {x:Value} {E:Eff}
 (h:Ztj P g t lo hi a=some E) (ha:Rep w (Own X ρ hp) ρ nx a x) :
 Zdc X w ρ nx hp ((do pure (.value (← Instr.sliceAt t x (lo.map e) (hi.map e) none)):Sem Next).run P w) E:=by
 have toV:∀ {d:Int} {o:Option Operand} {n:Int},ZcW g d o=some n→(o.map e=none∧n=d)∨o.map e=some (.int .i64 n):=by
  intro d o n hb
  rcases ZhQ hg hb with ⟨rfl,rfl⟩|⟨y,rfl,hy⟩
  ·exact .inl ⟨rfl,rfl⟩
  ·exact .inr (by simp [hy])
 unfold Ztj at h
 split at h
 ·-- strings
  rename_i s
  split at h
  ·rename_i hu
   split at h
   ·rename_i l hl
    split at h
    ·rename_i k hk
     obtain rfl:=Option.some.inj h
     cases ha
     refine Zaz H fun ho=>⟨.string (s.extract l.toNat k.toNat),?_,.str _⟩
     simp only [ZaS,ob] at ho;obtain ⟨h0,h1,h2,_⟩:=ho
     have hb:=ZbC (P:=P) (w:=w) (isSlice:=false) (cap:=s.size) (toV hl) (toV hk) h0 h1 h2 (Nat.le_refl _)
     simp [Instr.sliceAt,Instr.slice,run_underlying hu,hb]
    ·cases h
   ·cases h
  ·cases h
 ·-- an array that lasts
  rename_i cs c
  split at h
  ·rename_i len et z hz
   split at h
   ·rename_i xs hxs
    split at h
    ·rename_i l hl
     split at h
     ·rename_i k hk
      obtain rfl:=Option.some.inj h
      obtain ⟨hu,hs⟩:=ZhC hz
      refine Zaz H fun ho=>?_
      simp only [ZaS,ob] at ho;obtain ⟨h0,h1,h2,_⟩:=ho
      obtain ⟨gl,gx⟩:=ZoW hxs
      cases ha with
      | ip _ _ b o us hlt hb hc hr =>
        have hbd:=ZbC (P:=P) (w:=w) (isSlice:=false) (cap:=len) (toV hl) (toV hk) h0 h1 h2 (Nat.le_refl _)
        have hlen:((xs.take k.toNat).drop l.toNat).length=k.toNat - l.toNat:=by
         rw [List.length_drop,List.length_take];omega
        have hrun:(Instr.sliceAt t (.pointer (some ⟨b,o+c,none⟩)) (lo.map e) (hi.map e) none).run P w=.ok (.slice (some (if len=l.toNat then ⟨b,o+c,none⟩ else ⟨b,o+c+l.toNat*z,none⟩)) (k.toNat - l.toNat) (len - l.toNat)) w:=by
         simp [Instr.sliceAt,Instr.sureAddr,run_underlying hu,hbd,(ZaW (P:=P) (w:=w) hs).1,Zbc]
        refine ⟨_,by rw [Sem.run_bind,hrun];rfl,?_⟩
        by_cases hkl:k.toNat - l.toNat=0
        ·have hnil:(xs.take k.toNat).drop l.toNat=[]:=List.eq_nil_of_length_eq_zero (by rw [hlen];exact hkl)
         rw [hnil,hkl]
         exact .isl0 _ _ _
        ·rw [if_neg (by omega),← hlen]
         have hget:∀ i y,((xs.take k.toNat).drop l.toNat)[i]?=some y→xs[l.toNat+i]?=some y:=by
          intro i y hy
          rw [List.getElem?_drop,List.getElem?_take] at hy
          split at hy
          ·exact hy
          ·cases hy
         have hcell:∀ (i:Nat) (y:AV) (j:Nat) (u:AV),((xs.take k.toNat).drop l.toNat)[i]?=some y→y.cells[j]?=some u→cs[c+(l.toNat+i)*z+j]?=some u:=by
          intro i y j u hy hu'
          obtain ⟨q1,q2⟩:=gx _ _ (hget i y hy)
          rw [← q2 j (by rw [← q1];exact (List.getElem?_eq_some_iff.1 hu').1)]
          exact hu'
         refine .isl z _ b _ _ (fun i j=>us (c+(l.toNat+i)*z+j)) hlt hb (fun y hy=>?_) ?_ ?_ (by rw [hlen];omega)
         ·obtain ⟨i,hi⟩:=List.getElem?_of_mem hy
          exact (gx _ _ (hget i y hi)).1
         ·intro i y j u hy hu'
          have:=hc _ _ (hcell i y j u hy hu')
          rw [show o+c+l.toNat*z+(i*z+j)=o+(c+(l.toNat+i)*z+j) by rw [Nat.add_mul];omega]
          exact this
         ·intro i y j u hy hu'
          exact hr _ _ (hcell i y j u hy hu')
     ·cases h
    ·cases h
   ·cases h
  ·cases h
 ·-- readings
  rename_i wd xs
  split at h
  ·rename_i z hz
   cases hw:Nat.beq z wd
   ·simp [hw] at h
   ·simp only [hw,cond_true] at h
    obtain rfl:=Nat.eq_of_beq_eq_true hw
    split at h
    ·rename_i l hl
     split at h
     ·rename_i k hk
      obtain rfl:=Option.some.inj h
      obtain ⟨et,hu,hs⟩:=ZcE hz
      refine Zaz H fun ho=>?_
      simp only [ZaS,ob] at ho;obtain ⟨h0,h1,h2,_⟩:=ho
      have main:∀ (b:Option Addr) (cap:Nat),xs.length≤cap→(Instr.sliceAt t (.slice b xs.length cap) (lo.map e) (hi.map e) none).run P w =
       .ok (.slice (if cap=l.toNat then b else b.map (·.add (l.toNat*z))) (k.toNat - l.toNat) (cap - l.toNat)) w:=by
       intro b cap hc
       have hb:=ZbC (P:=P) (w:=w) (isSlice:=true) (cap:=cap) (toV hl) (toV hk) h0 h1 h2 hc
       simp [Instr.sliceAt,Instr.slice,run_underlying hu,hb,(ZaW (P:=P) (w:=w) hs).1]
      have hlen:((xs.take k.toNat).drop l.toNat).length=k.toNat - l.toNat:=by
       rw [List.length_drop,List.length_take];omega
      cases ha with
      | isl0 _ b cap =>
        have hm0:=main b cap (by simp)
        simp only [List.length_nil] at hm0
        refine ⟨_,by rw [Sem.run_bind,hm0];rfl,?_⟩
        have:k.toNat - l.toNat=0:=by simp at h2;omega
        rw [this]
        simp only [List.take_nil,List.drop_nil]
        exact .isl0 _ _ _
      | isl _ _ b o cap us hlt hb hww hc hr hcap =>
        refine ⟨_,by rw [Sem.run_bind,main _ cap hcap];rfl,?_⟩
        by_cases hkl:k.toNat - l.toNat=0
        ·have hnil:(xs.take k.toNat).drop l.toNat=[]:=List.eq_nil_of_length_eq_zero (by rw [hlen];exact hkl)
         rw [hnil,hkl]
         exact .isl0 _ _ _
        ·have hkn:k.toNat≤xs.length:=by omega
         rw [if_neg (by omega),Option.map_some,Zbc,← hlen]
         have hget:∀ i y,((xs.take k.toNat).drop l.toNat)[i]?=some y→xs[l.toNat+i]?=some y:=by
          intro i y hy
          rw [List.getElem?_drop,List.getElem?_take] at hy
          split at hy
          ·exact hy
          ·cases hy
         refine .isl z _ b _ _ (fun i c=>us (l.toNat+i) c) hlt hb (fun y hy=>hww y (List.mem_of_mem_take (List.mem_of_mem_drop hy))) ?_ ?_ (by rw [hlen];omega)
         ·intro i y c u hy hu'
          rw [Nat.add_assoc,← Zd5]
          exact hc _ _ _ _ (hget i y hy) hu'
         ·intro i y c u hy hu'
          exact hr _ _ _ _ (hget i y hy) hu'
     ·cases h
    ·cases h
  ·cases h
 ·-- owned rows
  rename_i n wd b len
  split at h
  ·rename_i z hz
   cases hw:Nat.beq z wd
   ·simp [hw] at h
   ·simp only [hw,cond_true] at h
    obtain rfl:=Nat.eq_of_beq_eq_true hw
    split at h
    ·split at h
     ·rename_i k hk
      obtain rfl:=Option.some.inj h
      obtain ⟨et,hu,hs⟩:=ZcE hz
      refine Zaz H fun ho=>?_
      simp only [ZaS,ob] at ho;obtain ⟨h1,h2,_⟩:=ho
      have main:∀ (b:Option Addr) (cap:Nat),len≤cap→(Instr.sliceAt t (.slice b len cap) none (hi.map e) none).run P w =
       .ok (.slice (if cap=0 then b else b.map (·.add (0*z))) (k.toNat - 0) (cap - 0)) w:=by
       intro b cap hc
       have hb:=ZbC (P:=P) (w:=w) (isSlice:=true) (cap:=cap) (lo:=none) (l:=0) (.inl ⟨rfl,rfl⟩) (toV hk) (Int.le_refl _) h1 h2 hc
       simp [Instr.sliceAt,Instr.slice,run_underlying hu,hb,(ZaW (P:=P) (w:=w) hs).1]
      cases ha with
      | sl _ _ _ _ bb cap et' sz hn hρ hsh hsz hle =>
        refine ⟨_,by simp only [Option.map_none];rw [Sem.run_bind,main _ cap hle];rfl,?_⟩
        have:(if cap=0 then some (⟨bb,b*z,none⟩:Addr) else (some (⟨bb,b*z,none⟩:Addr)).map (·.add (0*z)))=some ⟨bb,b*z,none⟩:=by
         split
         ·rfl
         ·simp [Zbc]
        rw [this]
        exact .sl n z b _ bb _ et' sz hn hρ hsh (by simpa using hsz) (by omega)
      | slv _ _ _ bb hn hρ =>
        refine ⟨_,by simp only [Option.map_none];rw [Sem.run_bind,main _ 0 (Nat.le_refl _)];rfl,?_⟩
        have:k.toNat=0:=by simp at h2;omega
        simp only [this,if_true,Nat.sub_zero]
        exact .slv _ _ _ _ hn hρ
     ·cases h
    ·rename_i lo'
     split at h
     ·rename_i l hl
      split at h
      ·rename_i k hk
       obtain rfl:=Option.some.inj h
       obtain ⟨et,hu,hs⟩:=ZcE hz
       refine Zaz H fun ho=>?_
       simp only [ZaS,ob] at ho;obtain ⟨h0,h1,h2,h3,_⟩:=ho
       cases ha with
       | sl _ _ _ _ bb cap et' sz hn hρ hsh hsz hle =>
         have hb:=ZbC (P:=P) (w:=w) (isSlice:=true) (cap:=cap) (toV hl) (toV hk) h0 h1 h2 hle
         have hrun:(Instr.sliceAt t (.slice (some ⟨bb,b*z,none⟩) len cap) ((some lo').map e) (hi.map e) none).run P w=.ok (.slice (some ⟨bb,(b+l.toNat)*z,none⟩) (k.toNat - l.toNat) (cap - l.toNat)) w:=by
          have hne:¬ cap=l.toNat:=by omega
          simp only [Option.map_some] at hb
          simp [Instr.sliceAt,Instr.slice,run_underlying hu,hb,(ZaW (P:=P) (w:=w) hs).1,hne,Zbc,Nat.add_mul]
         refine ⟨_,by rw [Sem.run_bind,hrun];rfl,?_⟩
         refine .sl n z (b+l.toNat) _ bb _ et' sz hn hρ hsh ?_ (by omega)
         have:(b+l.toNat)*z+(cap - l.toNat)*z=b*z+cap*z:=by
          rw [← Nat.add_mul,← Nat.add_mul];congr 1;omega
         omega
       | slv _ _ _ bb hn hρ=>simp at h3;omega
      ·cases h
     ·cases h
  ·cases h
 ·cases h
theorem ZpH (H:HRep X w ρ nx hp) {g:Operand→Option AV} {e:Operand→Value} (hg:ZfB w (Own X ρ hp) ρ nx g e) {t:TypeId} {lo hi:Option Operand} {mx:Operand} {a:AV} {x:Value} {E:Eff}
 (h:Zmm P g t lo hi mx a=some E) (ha:Rep w (Own X ρ hp) ρ nx a x) :
 Zdc X w ρ nx hp ((do pure (.value (← Instr.sliceAt t x (lo.map e) (hi.map e) (some (e mx)))):Sem Next).run P w) E:=by
 have toI:∀ {o:Operand} {n:Int},ZcW g 0 (some o)=some n→e o=.int .i64 n:=by
  intro o n hb
  rcases ZhQ hg hb with ⟨h1,_⟩|⟨y,hy,hv⟩
  ·cases h1
  ·obtain rfl:=Option.some.inj hy
   exact hv
 unfold Zmm at h
 split at h
 ·rename_i wd xs
  split at h
  ·rename_i z hz
   cases hw:Nat.beq z wd
   ·simp [hw] at h
   ·simp only [hw,cond_true] at h
    obtain rfl:=Nat.eq_of_beq_eq_true hw
    split at h
    ·rename_i ko
     split at h
     ·rename_i k m hk hm
      obtain rfl:=Option.some.inj h
      obtain ⟨et,hu,hs⟩:=ZcE hz
      refine Zaz H fun ho=>?_
      simp only [ZaS,ob] at ho;obtain ⟨h0,h1,h2,_⟩:=ho
      have main:∀ (b:Option Addr) (cap:Nat),xs.length≤cap→(Instr.sliceAt t (.slice b xs.length cap) none (some (e ko)) (some (e mx))).run P w =
       .ok (.slice (if k.toNat=0 then b else b.map (·.add (0*z))) k.toNat k.toNat) w:=by
       intro b cap hc
       have hb:=ZgI (P:=P) (w:=w) (len:=xs.length) (cap:=cap) (toI hk) (toI hm) h0 h2 (by omega)
       simp [Instr.sliceAt,Instr.slice,run_underlying hu,hb,(ZaW (P:=P) (w:=w) hs).1]
      have hlen:(xs.take k.toNat).length=k.toNat:=by rw [List.length_take];omega
      cases ha with
      | isl0 _ b cap =>
        have hm0:=main b cap (by simp)
        simp only [List.length_nil] at hm0
        refine ⟨_,by simp only [Option.map_none,Option.map_some];rw [Sem.run_bind,hm0];rfl,?_⟩
        have hk0:k.toNat=0:=by simp at h1;omega
        rw [hk0]
        simp only [List.take_nil,if_true]
        exact .fsl z [] b (.isl0 _ _ _)
      | isl _ _ b o cap us hlt hb hww hc hr hcap =>
        refine ⟨_,by simp only [Option.map_none,Option.map_some];rw [Sem.run_bind,main _ cap hcap];rfl,?_⟩
        have hget:∀ (i:Nat) (y:AV),(xs.take k.toNat)[i]?=some y→xs[i]?=some y:=by
         intro i y hy
         rw [List.getElem?_take] at hy
         split at hy
         ·exact hy
         ·cases hy
        have e0:(if k.toNat=0 then (some ⟨b,o,none⟩:Option Addr) else (some ⟨b,o,none⟩:Option Addr).map (·.add (0*z)))=some ⟨b,o,none⟩:=by
         split
         ·rfl
         ·rw [Option.map_some,Zbc,Nat.zero_mul,Nat.add_zero]
        rw [e0]
        have key:Rep w (Own X ρ hp) ρ nx (.isl z (xs.take k.toNat)) (.slice (some ⟨b,o,none⟩) (xs.take k.toNat).length (xs.take k.toNat).length) :=
         .isl z _ b o _ us hlt hb (fun y hy=>hww y (List.mem_of_mem_take hy)) (fun i y c u hy hu'=>hc _ _ _ _ (hget i y hy) hu') (fun i y c u hy hu'=>hr _ _ _ _ (hget i y hy) hu') (Nat.le_refl _)
        have:=Rep.fsl z _ _ key
        rw [hlen] at this
        exact this
     ·cases h
    ·cases h
  ·cases h
 ·cases h
theorem Zh6 {t vt:TypeId} (h:ZzS P t=some vt):∃ kt,P.underlying t=some (.map kt vt)∧P.underlying kt=some (.int .i64):=by
 unfold ZzS at h
 split at h
 ·rename_i kt v hu
  split at h
  ·rename_i hk
   obtain rfl:=Option.some.inj h
   exact ⟨kt,hu,hk⟩
  ·cases h
 ·cases h
theorem Zfv {own:Nat→Prop} {n:Int}:∀ (kvs:List (AV × AV)) (es:List MapEntry) (i:Nat),ZeU kvs=true→ZaS (ZgM n kvs) →
 kvs.length=es.length→(∀ (j:Nat) (kv:AV × AV) (e:MapEntry),kvs[j]?=some kv→es[j]?=some e→Rep w own ρ nx kv.1 e.key)→Instr.findNow (.int .i64) (.int .i64 n) es i=some none
 | [],es,i,_,_,hl,_=>by
   cases es with
   | nil=>rfl
   | cons e r=>simp at hl
 | (k,v)::r,es,i,hk,hf,hl,hr=>by
   cases es with
   | nil=>simp at hl
   | cons e es =>
     cases k<;>try (simp [ZeU] at hk;done)
     case int kk m =>
      cases kk<;>try (simp [ZeU] at hk;done)
      simp only [ZeU] at hk
      obtain ⟨hne,hf⟩:=hf
      have h0:=hr 0 _ e rfl rfl
      have hkey:e.key=.int .i64 m:=by
       revert h0
       generalize e.key=q
       intro h0
       cases h0;rfl
      have ih:=Zfv r es (i+1) hk hf (by simpa using hl) (fun j kv e hj he=>hr (j+1) kv e (by simpa using hj) (by simpa using he))
      have hne':(n == m)=false:=by simpa using fun h=>hne h.symm
      simp [Instr.findNow,Instr.sameNow,hkey,hne',ih]
theorem Zpp (H:HRep X w ρ nx hp) {t:TypeId} {m k v:AV} {x y z:Value} {E:Eff} (h:Zmw P t v m k=some E) (hm:Rep w (Own X ρ hp) ρ nx m x) (hk:Rep w (Own X ρ hp) ρ nx k y)
 (hv:Rep w (Own X ρ hp) ρ nx v z):Zdc X w ρ nx hp ((do Instr.mapUpdate t x y z;pure .skip:Sem Next).run P w) E:=by
 unfold Zmw at h
 split at h
 ·rename_i n a
  split at h
  ·rename_i vt hvt
   obtain rfl:=Option.some.inj h
   obtain ⟨kt,hu,hku⟩:=Zh6 hvt
   cases hk
   intro bs set new val obs hb hkk hobs
   simp only [Zbf] at hb
   split at hb
   ·rename_i ab hn
    obtain rfl:=Option.some.inj hb
    replace hkk:Znm n a v [ab]=some ⟨set,new,val,obs⟩:=hkk
    unfold Znm at hkk
    split at hkk
    ·rename_i kvs heq
     simp only [List.cons.injEq,and_true] at heq
     subst heq
     cases hik:ZeU kvs
     ·simp [hik] at hkk
     ·simp only [hik,cond_true,Option.some.injEq,Out.mk.injEq] at hkk
      obtain ⟨rfl,rfl,rfl,rfl⟩:=hkk
      cases hm with
      | mp _ b hlt hρ =>
        rcases H.blk n _ hn with ⟨b',hb',hr⟩|⟨_,wd,hw⟩
        ·obtain rfl:b'=b:=Option.some.inj (hb'.symm.trans hρ)
         cases hr with
         | map _ es clock hh hl hk1 hv1 =>
           have hf:=Zfv (w:=w) (own:=Own X ρ hp) (ρ:=ρ) (nx:=nx) (n:=a) kvs es.toList 0 hik hobs (by simp [hl]) (fun j kv e hj he=>hk1 j kv e hj (by simpa using he))
           have hlt':=Za2 hh
           have hset:(w.heap.setIfInBounds b' (.map (es.push { key:=.int .i64 a,val:=z,born:=clock }) (clock+1)))[b']?=some (.map (es.push { key:=.int .i64 a,val:=z,born:=clock }) (clock+1)):=by
            simp [hlt']
           have W:Wrote w b' { w with heap:=w.heap.setIfInBounds b' (.map (es.push { key:=.int .i64 a,val:=z,born:=clock }) (clock+1)) } :=
            ⟨by simp,fun i hi=>by simp [Ne.symm hi],by simp [World.shape?,hset,hh],rfl,rfl⟩
           have hrun:(Instr.mapUpdate t (.map (some b')) (.int .i64 a) z).run P w=.ok () { w with heap:=w.heap.setIfInBounds b' (.map (es.push { key:=.int .i64 a,val:=z,born:=clock }) (clock+1)) }:=by
            have hck:=MapKept.run_checkKey (P:=P) (w:=w) (k:=.int .i64 a) hku (by simp [MapKept.IsKey]) false 9999
            have hfk:=MapKept.run_findKey (P:=P) (w:=w) (kt:=kt) (l:=es.toList) hku hf
            simp only [Instr.mapUpdate,Sem.run_bind,run_underlying hu,Result.andThen_ok,MapKept.run_getObj_map hh,hck,hfk,MapKept.run_setObj_map _ hh]
           have E:=Evo.write H (.map (kvs++[(.int .i64 a,v)])) hn hρ W
           refine Zf1 H (by rw [Sem.run_bind,hrun];rfl) hn hρ W (.map _ _ _ hset (by simp [hl]) ?_ ?_)
           ·intro j kv e hj he
            by_cases hjl:j<kvs.length
            ·rw [List.getElem?_append_left hjl] at hj
             rw [Array.getElem?_push,if_neg (by omega)] at he
             exact (hk1 j kv e hj he).mono E
            ·rw [List.getElem?_append_right (by omega)] at hj
             have:j=kvs.length:=by have:=(List.getElem?_eq_some_iff.1 hj).1;simp at this;omega
             subst this
             simp at hj
             rw [Array.getElem?_push,if_pos hl.symm] at he
             subst hj
             obtain rfl:=Option.some.inj he
             exact .int _ _
           ·intro j kv e hj he
            by_cases hjl:j<kvs.length
            ·rw [List.getElem?_append_left hjl] at hj
             rw [Array.getElem?_push,if_neg (by omega)] at he
             exact (hv1 j kv e hj he).mono E
            ·rw [List.getElem?_append_right (by omega)] at hj
             have:j=kvs.length:=by have:=(List.getElem?_eq_some_iff.1 hj).1;simp at this;omega
             subst this
             simp at hj
             rw [Array.getElem?_push,if_pos hl.symm] at he
             subst hj
             obtain rfl:=Option.some.inj he
             exact hv.mono E
        ·cases hw
    ·cases hkk
   ·cases hb
  ·cases h
 ·cases h
theorem Zns {own:Nat→Prop} {n z:Int}:∀ (kvs:List (AV × AV)) (ks:List (Int × Int)) (es:List MapEntry) (i:Nat),ZbM kvs=some ks →
 kvs.length=es.length→(∀ (j:Nat) (kv:AV × AV) (e:MapEntry),kvs[j]?=some kv→es[j]?=some e→Rep w own ρ nx kv.1 e.key)→(∀ (j:Nat) (kv:AV × AV) (e:MapEntry),kvs[j]?=some kv→es[j]?=some e→Rep w own ρ nx kv.2 e.val) →
 (∃ j,Instr.findNow (.int .i64) (.int .i64 n) es i=some (some (j,.int .i64 (ZtF n z ks)))∧Zt3 n ks=true) ∨
 (Instr.findNow (.int .i64) (.int .i64 n) es i=some none∧Zt3 n ks=false∧ZtF n z ks=z)
 | [],ks,es,i,h,hl,_,_=>by
   simp [ZbM] at h;subst h
   cases es with
   | nil=>exact .inr ⟨rfl,rfl,rfl⟩
   | cons e r=>simp at hl
 | (k,v)::r,ks,es,i,h,hl,hk,hv=>by
   cases es with
   | nil=>simp at hl
   | cons e es =>
     cases k<;>try (simp [ZbM] at h;done)
     case int kk m =>
      cases kk<;>try (simp [ZbM] at h;done)
      cases v<;>try (simp [ZbM] at h;done)
      case int vk u =>
       cases vk<;>try (simp [ZbM] at h;done)
       simp only [ZbM] at h
       split at h
       ·rename_i l hls
        obtain rfl:=Option.some.inj h
        have h0:=hk 0 _ e rfl rfl
        have hkey:e.key=.int .i64 m:=by
         revert h0;generalize e.key=q;intro h0;cases h0;rfl
        have h0':=hv 0 _ e rfl rfl
        have hval:e.val=.int .i64 u:=by
         revert h0';generalize e.val=q;intro h0';cases h0';rfl
        by_cases hnm:n=m
        ·subst hnm
         exact .inl ⟨i,by simp [Instr.findNow,Instr.sameNow,hkey,hval,ZtF],by simp [Zt3]⟩
        ·have ih:=Zns (n:=n) (z:=z) r l es (i+1) hls (by simpa using hl) (fun j kv e hj he=>hk (j+1) kv e (by simpa using hj) (by simpa using he)) (fun j kv e hj he=>hv (j+1) kv e (by simpa using hj) (by simpa using he))
         have hb:(n == m)=false:=by simpa using hnm
         simpa [Instr.findNow,Instr.sameNow,hkey,hb,ZtF,Zt3,hnm] using ih
       ·cases h
theorem Zpq (H:HRep X w ρ nx hp) {t:TypeId} {ok:Bool} {m k:AV} {x y:Value} {E:Eff} (h:Zms P t ok m k=some E) (hm:Rep w (Own X ρ hp) ρ nx m x) (hk:Rep w (Own X ρ hp) ρ nx k y) :
 Zdc X w ρ nx hp ((do pure (.value (← Instr.lookup t x y ok)):Sem Next).run P w) E:=by
 unfold Zms at h
 split at h
 ·rename_i kvs a
  split at h
  ·rename_i vt hvt
   obtain ⟨kt,hu,hku⟩:=Zh6 hvt
   split at h
   ·rename_i z hz
    split at h
    ·rename_i ks hks
     cases hk
     cases hm with
     | imap _ b es clock hb hh hl hk1 hv1 =>
       obtain ⟨iv,zv,hiv,hzv,hzo⟩:=Zdm hz
       have hzr:=ZcD (w:=w) (own:=Own X ρ hp) (ρ:=ρ) (nx:=nx) hzo
       have hzz:zv=.int .i64 z:=by cases hzr;rfl
       subst hzz
       have hck:=MapKept.run_checkKey (P:=P) (w:=w) (k:=.int .i64 a) hku (by simp [MapKept.IsKey]) es.isEmpty 9999
       have key:(Instr.lookup t (.map (some b)) (.int .i64 a) ok).run P w=.ok (if ok then .tuple #[.int .i64 (ZtF a z ks),.bool (Zt3 a ks)] else .int .i64 (ZtF a z ks)) w:=by
        rcases Zns (w:=w) (own:=Own X ρ hp) (ρ:=ρ) (nx:=nx) (n:=a) (z:=z) kvs ks es.toList 0 hks (by simp [hl]) (fun j kv e hj he=>hk1 j kv e hj (by simpa using he)) (fun j kv e hj he=>hv1 j kv e hj (by simpa using he)) with ⟨j,hf,hB⟩|⟨hf,hB,hI⟩
        ·have hfk:=MapKept.run_findKey (P:=P) (w:=w) (kt:=kt) (l:=es.toList) hku hf
         simp only [Instr.lookup,Sem.run_bind,run_underlying hu,Result.andThen_ok,MapKept.run_getObj_map hh,Sem.run_pure,hck,hfk,hB]
        ·have hfk:=MapKept.run_findKey (P:=P) (w:=w) (kt:=kt) (l:=es.toList) hku hf
         simp only [Instr.lookup,Sem.run_bind,run_underlying hu,Result.andThen_ok,MapKept.run_getObj_map hh,Sem.run_pure,hck,hfk,hB,hI,zeroValue,typeInfo,run_program,hiv,hzv]
       split at h
       ·obtain rfl:=Option.some.inj h
        refine Zaz H fun _=>⟨_,by rw [Sem.run_bind,key];rfl,?_⟩
        refine .tup _ #[.int .i64 (ZtF a z ks),.bool (Zt3 a ks)] rfl fun j q u hq hu'=>?_
        match j with
        | 0=>simp at hq hu';subst hq;subst hu';exact .int _ _
        | 1=>simp at hq hu';subst hq;subst hu';exact .bool _
        | j+2=>simp at hq
       ·obtain rfl:=Option.some.inj h
        exact Zaz H fun _=>⟨_,by rw [Sem.run_bind,key];rfl,.int _ _⟩
    ·cases h
   ·cases h
  ·cases h
 ·cases h
end
end
section
section
variable {X:Nat→Prop} {P:Program} {w:World} {ρ:Nat→Option Nat} {nx:Nat} {hp:Hp}
theorem Zle (H:HRep X w ρ nx hp) {a:AV} {x:Value} {E:Eff} {e:Operand→Value} {o:Oper} {y:Operand} (ho:o.op=.nilCheck y) (hx:e y=x) (h:ZhE a=some E) (ha:Rep w (Own X ρ hp) ρ nx a x) :
 Zdc X w ρ nx hp ((execOp e o).run P w) E:=by
 unfold ZhE at h
 split at h
 ·obtain rfl:=Option.some.inj h
  cases ha with
  | ptr n i wd c b hn hρ=>exact Zaz H fun _=>⟨e y,by simp only [execOp,ho];rw [hx];rfl,by rw [hx];exact .ptr _ _ _ _ b hn hρ⟩
 ·obtain rfl:=Option.some.inj h
  cases ha with
  | ip cs c b o' us hlt hb hc hr=>exact Zaz H fun _=>⟨e y,by simp only [execOp,ho];rw [hx];rfl,by rw [hx];exact .ip _ _ b o' us hlt hb hc hr⟩
 ·obtain rfl:=Option.some.inj h
  cases ha with
  | fn f first cap vs us hl hm h1 h2=>exact Zaz H fun _=>⟨e y,by simp only [execOp,ho];rw [hx];rfl,by rw [hx];exact .fn _ _ _ vs us hl hm h1 h2⟩
 ·cases h
theorem ZhT {q:Option (AV × List Ob)} {E:Eff} (h:Zox q=some E):∃ v o,q=some (v,o)∧E=.pure v o:=by
 unfold Zox at h
 split at h
 ·exact ⟨_,_,rfl,(Option.some.inj h).symm⟩
 ·cases h
theorem Zni (H:HRep X w ρ nx hp) {src dst:TypeId} {a:AV} {x:Value} {E:Eff} (h:ZkJ P src dst a=some E) (ha:Rep w (Own X ρ hp) ρ nx a x) :
 Zdc X w ρ nx hp ((do pure (.value (← convert src dst x)):Sem Next).run P w) E:=by
 unfold ZkJ at h
 split at h
 ·cases hs:ZmJ P src
  ·simp [hs] at h
  ·simp only [hs,cond_true] at h
   unfold ZmJ at hs
   split at hs
   ·rename_i d hd
    cases ha
    split at h
    ·rename_i hu
     obtain rfl:=Option.some.inj h
     refine Zaz H fun ho=>⟨_,?_,.int _ _⟩
     simp [convert,run_underlying hd,run_underlying hu,Conv.intToInt,ZfD (show Zaq _ from ho.1)]
    ·rename_i k' _ hu
     obtain rfl:=Option.some.inj h
     refine Zaz H fun ho=>⟨_,?_,.int _ _⟩
     simp [convert,run_underlying hd,run_underlying hu,Conv.intToInt]
    ·cases h
   ·cases hs
 ·cases h
theorem Zm4 (H:HRep X w ρ nx hp) {i:Nat} {a:AV} {x:Value} {E:Eff} (h:ZkM i a=some E) (ha:Rep w (Own X ρ hp) ρ nx a x) :
 Zdc X w ρ nx hp ((do pure (.value (← Instr.extract x i)):Sem Next).run P w) E:=by
 unfold ZkM at h
 split at h
 ·split at h
  ·rename_i vs _ v hv
   obtain rfl:=Option.some.inj h
   cases ha with
   | tup _ us hl hr =>
     have hi:i<us.size:=by have:=(List.getElem?_eq_some_iff.1 hv).1;omega
     exact Zaz H fun _=>⟨us[i],by simp [Instr.extract,hi],hr i v _ hv (Array.getElem?_eq_getElem hi)⟩
  ·cases h
 ·cases h
theorem ofInt {own:Nat→Prop} {a:AV} {n:Int} {x:Value} (h:Zn4 a=some n) (ha:Rep w own ρ nx a x):∃ k,x=.int k n:=by
 unfold Zn4 at h
 split at h
 ·obtain rfl:=Option.some.inj h;cases ha;exact ⟨_,rfl⟩
 ·cases h
set_option maxHeartbeats 2000000 in
theorem ZgR (H:HRep X w ρ nx hp) {g:Operand→Option AV} {e:Operand→Value} (hg:ZfB w (Own X ρ hp) ρ nx g e) {o:Oper} {E:Eff} (h:ZfT P g o.op=some E) :
 Zdc X w ρ nx hp ((execOp e o).run P w) E:=by
 obtain ⟨dst,op,ty,pos,after,guard⟩:=o
 dsimp only at h
 cases op<;>try (simp [ZfT] at h;done)
 case move x =>
  obtain ⟨v,hv,h⟩:=Option.bind_eq_some_iff.1 h
  obtain rfl:=Option.some.inj h
  exact Zaz H fun _=>⟨e x,rfl,hg _ _ hv⟩
 case assign x =>
  obtain ⟨v,hv,h⟩:=Option.bind_eq_some_iff.1 h
  obtain rfl:=Option.some.inj h
  exact Zaz H fun _=>⟨e x,rfl,hg _ _ hv⟩
 case alloc t =>
  obtain ⟨z,hz,h⟩:=Option.bind_eq_some_iff.1 h
  obtain ⟨i,v,hi,hv,hov⟩:=Zdm hz
  refine Zqx H (t:=t) h (ZcD hov) ?_
  simp [execOp,Instr.alloc,zeroValue,typeInfo,hi,hv,ZiW]
 case box t x =>
  obtain ⟨v,hv,h⟩:=Option.bind_eq_some_iff.1 h
  refine Zqx H (t:=t) h (hg _ _ hv) ?_
  simp [execOp,Instr.box,ZiW]
 case build t parts =>
  obtain ⟨ps,hps,h⟩:=Option.bind_eq_some_iff.1 h
  obtain ⟨v,hv,h⟩:=Option.bind_eq_some_iff.1 h
  obtain rfl:=Option.some.inj h
  obtain ⟨u,hu,hr⟩:=Zpx (P:=P) (w:=w) (vs:=parts.map fun (i,x)=>(i,e x)) hv (by simpa using ZcQ hg hps)
  exact Zaz H fun _=>⟨u,by simp only [execOp,Sem.run_bind,hu];rfl,hr⟩
 case buildSlice t len parts =>
  obtain ⟨ps,hps,h⟩:=Option.bind_eq_some_iff.1 h
  have key:=Ziy (P:=P) (t:=t) (len:=len) (vs:=parts.map fun (i,x)=>(i,e x)) H h (by rw [Array.toList_map];exact ZcQ hg hps)
  simp only [execOp]
  exact key
 case insert t m k v =>
  obtain ⟨a,ha,h⟩:=Option.bind_eq_some_iff.1 h
  obtain ⟨b,hb,h⟩:=Option.bind_eq_some_iff.1 h
  obtain ⟨u,hu,h⟩:=Option.bind_eq_some_iff.1 h
  exact Zpp H h (hg _ _ ha) (hg _ _ hb) (hg _ _ hu)
 case load t x =>
  obtain ⟨v,hv,h⟩:=Option.bind_eq_some_iff.1 h
  exact Zjv H h (hg _ _ hv)
 case store t x y =>
  obtain ⟨a,ha,h⟩:=Option.bind_eq_some_iff.1 h
  obtain ⟨v,hv,h⟩:=Option.bind_eq_some_iff.1 h
  exact Zl4 H h (hg _ _ ha) (hg _ _ hv)
 case nilCheck x =>
  obtain ⟨v,hv,h⟩:=Option.bind_eq_some_iff.1 h
  exact Zle H rfl rfl h (hg _ _ hv)
 case binOp op t x y yt =>
  obtain ⟨a,ha,h⟩:=Option.bind_eq_some_iff.1 h
  obtain ⟨b,hb,h⟩:=Option.bind_eq_some_iff.1 h
  obtain ⟨v,ob,hq,rfl⟩:=ZhT h
  refine Zaz H fun hobs=>?_
  obtain ⟨u,hu,hr⟩:=ZuY (P:=P) (ox:=x) (oy:=y) hq hobs (hg _ _ ha) (hg _ _ hb)
  refine ⟨u,?_,hr⟩
  show Sem.run P (do pure (.value (← (do eqGuard op t x y (e x) (e y);Go.binOp op t (e x) (e y)))):Sem Next) w=_
  rw [Sem.run_bind,hu];rfl
 case unOp op t x =>
  obtain ⟨a,ha,h⟩:=Option.bind_eq_some_iff.1 h
  obtain ⟨v,ob,hq,rfl⟩:=ZhT h
  refine Zaz H fun hobs=>?_
  obtain ⟨u,hu,hr⟩:=Zyq (P:=P) hq hobs (hg _ _ ha)
  exact ⟨u,by simp [execOp,hu],hr⟩
 case convert s t x =>
  obtain ⟨a,ha,h⟩:=Option.bind_eq_some_iff.1 h
  exact Zni H h (hg _ _ ha)
 case makeFunc f first cap =>
  obtain ⟨a,ha,h⟩:=Option.bind_eq_some_iff.1 h
  obtain ⟨b,hb,h⟩:=Option.bind_eq_some_iff.1 h
  obtain rfl:=Option.some.inj h
  have r1:=ZbF hg ha
  have r2:=ZbF hg hb
  exact Zaz H fun _=>⟨.func f (first.map e) (cap.map e),rfl,
   .fn f a b _ _ (by have:=r1.1;simp at this;simp [this]) (by have:=r2.1;simp at this;simp [this]) (fun j x u hx hu=>r1.2 j x u hx (by simpa using hu)) (fun j x u hx hu=>r2.2 j x u hx (by simpa using hu))⟩
 case makeMap t r =>
  cases r with
  | some r=>simp [ZfT] at h
  | none =>
    simp only [ZfT,Option.some.injEq] at h
    subst h
    intro bs set new val obs _ hk _
    simp only [Option.some.injEq,Out.mk.injEq] at hk
    obtain ⟨rfl,rfl,rfl,rfl⟩:=hk
    refine Zes H (o:=.map #[] 0) (u:=.map (some w.heap.size)) ?_ (.map [] #[] 0 (ZaP _ _) rfl (fun j kv e h=>by simp at h) (fun j kv e h=>by simp at h)) (.mp nx _ (Nat.lt_succ_self _) (Za0 _ _ _))
    simp [execOp,Instr.makeMap]
 case slice t x lo hi mx =>
  cases mx with
  | some m =>
    obtain ⟨a,ha,h⟩:=Option.bind_eq_some_iff.1 h
    exact ZpH H hg h (hg _ _ ha)
  | none =>
    obtain ⟨a,ha,h⟩:=Option.bind_eq_some_iff.1 h
    exact ZsQ H hg h (hg _ _ ha)
 case fieldAddr t x f =>
  obtain ⟨a,ha,h⟩:=Option.bind_eq_some_iff.1 h
  exact ZjK H h (hg _ _ ha)
 case field t x f =>
  obtain ⟨a,ha,h⟩:=Option.bind_eq_some_iff.1 h
  exact Zr8 H h (hg _ _ ha)
 case indexAddr t x ix =>
  obtain ⟨a,ha,h⟩:=Option.bind_eq_some_iff.1 h
  obtain ⟨j,hj,h⟩:=Option.bind_eq_some_iff.1 h
  obtain ⟨n,hn,h⟩:=Option.bind_eq_some_iff.1 h
  obtain ⟨ik,hi⟩:=ofInt hn (hg _ _ hj)
  have:=Zkz (P:=P) (ik:=ik) H h (hg _ _ ha)
  rw [← hi] at this
  exact this
 case index t x ix =>
  obtain ⟨a,ha,h⟩:=Option.bind_eq_some_iff.1 h
  obtain ⟨j,hj,h⟩:=Option.bind_eq_some_iff.1 h
  obtain ⟨n,hn,h⟩:=Option.bind_eq_some_iff.1 h
  obtain ⟨ik,hi⟩:=ofInt hn (hg _ _ hj)
  have:=Zse (P:=P) (ik:=ik) H h (hg _ _ ha)
  rw [← hi] at this
  exact this
 case lookup t m k ok =>
  obtain ⟨a,ha,h⟩:=Option.bind_eq_some_iff.1 h
  obtain ⟨b,hb,h⟩:=Option.bind_eq_some_iff.1 h
  exact Zpq H h (hg _ _ ha) (hg _ _ hb)
 case extract x i =>
  obtain ⟨a,ha,h⟩:=Option.bind_eq_some_iff.1 h
  exact Zm4 H h (hg _ _ ha)
 case call c =>
  obtain ⟨callee,args,argTypes⟩:=c
  cases callee with
  | value f=>simp [ZfT] at h
  | invoke r m=>simp [ZfT] at h
  | builtin b =>
    obtain ⟨as,has,h⟩:=Option.bind_eq_some_iff.1 h
    have hr:=ZbF hg has
    have hr':Reps w (Own X ρ hp) ρ nx as (args.map e).toList:=by simpa using hr
    have key:=fun cs=>Zmz (P:=P) (ty:=ty) (cs:=cs) H h hr'
    simp only [execOp,resolve,invoke,Sem.run_bind,Sem.run_pure,Result.andThen_ok]
    exact key _
end
end
section
def ZiT (r:Nat):Deferred:={ target:=.collected r,args:=#[] }
structure Base (X:Nat→Prop) (W0:World) (O0:Nat→Prop) (w:World) (own:Nat→Prop):Prop where
 size:W0.heap.size≤w.heap.size
 same:∀ b,b<W0.heap.size→¬ O0 b→w.heap[b]?=W0.heap[b]?
 xsame:∀ b,X b→w.heap[b]?=W0.heap[b]?
 own:∀ b,own b→O0 b∨W0.heap.size≤b
 shape:∀ b e k,W0.shape? b=some (e,k)→w.shape? b=some (e,k)
 os:w.os=W0.os
 out:w.output=W0.output
theorem Base.refl (X:Nat→Prop) (w:World) (own:Nat→Prop):Base X w own w own :=
 ⟨Nat.le_refl _,fun _ _ _=>rfl,fun _ _=>rfl,fun _ h=>.inl h,fun _ _ _ h=>h,rfl,rfl⟩
theorem Base.step {X:Nat→Prop} {W0:World} {O0:Nat→Prop} {w:World} {own:Nat→Prop} {ρ:Nat→Option Nat} {nx:Nat} {w':World} {own':Nat→Prop} {ρ':Nat→Option Nat} {nx':Nat} (h:Base X W0 O0 w own)
 (E:Evo X w own ρ nx w' own' ρ' nx') (ho:w'.os=w.os) (hu:w'.output=w.output):Base X W0 O0 w' own' where
 size:=Nat.le_trans h.size E.size
 same b hb hn:=by
  have hbw:=Nat.lt_of_lt_of_le hb h.size
  rw [E.same b hbw (fun ho=>by rcases h.own b ho with h1|h1;exact hn h1;omega)]
  exact h.same b hb hn
 xsame b hb:=(E.xsame b hb).trans (h.xsame b hb)
 own b hb:=by
  rcases Nat.lt_or_ge b w.heap.size with hl|hl
  ·exact h.own b (E.owns b hl hb)
  ·exact .inr (Nat.le_trans h.size hl)
 shape b e k hs:=E.shape b e k (h.shape b e k hs)
 os:=ho.trans h.os
 out:=hu.trans h.out
def Marks (W0:World) (w:World) (own:Nat→Prop) (ds:List Deferred):Prop :=
 ∃ rs:List Nat,ds=rs.map ZiT∧rs.Nodup∧∀ r∈rs,W0.heap.size≤r∧w.heap[r]?=some (.deferred (some []))∧¬ own r
theorem Marks.step {X:Nat→Prop} {W0 w w':World} {own own':Nat→Prop} {ρ ρ':Nat→Option Nat} {nx nx':Nat} {ds:List Deferred} (h:Marks W0 w own ds) (E:Evo X w own ρ nx w' own' ρ' nx'):Marks W0 w' own' ds:=by
 obtain ⟨rs,rfl,hn,hr⟩:=h
 refine ⟨rs,rfl,hn,fun r hr'=>?_⟩
 obtain ⟨h1,h2,h3⟩:=hr r hr'
 have hlt:=Za2 h2
 exact ⟨h1,(E.same r hlt h3).trans h2,fun ho=>h3 (E.owns r hlt ho)⟩
def Za5 (tmps:Array Value) (C:Cnd):Prop:=∀ d u,(d,u)∈C→tmps[d]?=some (.bool u)
structure Sim (X:Nat→Prop) (B:Nat) (W0:World) (O0:Nat→Prop) (ρ0 ρ:Nat→Option Nat) (s:AS) (a:Act) (w:World):Prop where
 size:a.tmps.size=s.nt
 fr:FrRep w (Own X ρ s.hp) ρ s.nx s.fr a.tmps
 lf:∀ (t:Nat) (C:Cnd) (v:AV),(t,C,v)∈s.lf→∃ u,a.tmps[t]?=some u∧(Za5 a.tmps C→Rep w (Own X ρ s.hp) ρ s.nx v u)∧(¬ Za5 a.tmps C→u=undef)
 tg:∀ (d:Nat) (b:Bool),(d,b)∈s.tg→∀ x,a.tmps[d]?=some (.bool x)→x=b
 heap:HRep X w ρ s.nx s.hp
 base:Base X W0 O0 w (Own X ρ s.hp)
 le:B≤s.nx
 names:∀ n,n<B→ρ n=ρ0 n
 marks:Marks W0 w (Own X ρ s.hp) a.defers
theorem Zfm {α:Type} {l:List (Nat × α)} {n:Nat} {v:α} (h:lk l n=some v):(n,v)∈l:=by
 induction l with
 | nil=>simp [lk] at h
 | cons p r ih =>
   obtain ⟨i,x⟩:=p
   simp only [lk] at h
   cases hb:Nat.beq i n
   ·simp only [hb,cond_false] at h;exact List.mem_cons_of_mem _ (ih h)
   ·simp only [hb,cond_true,Option.some.injEq] at h
    obtain rfl:=Nat.eq_of_beq_eq_true hb
    subst h;exact List.mem_cons_self
theorem Zza {α:Type} {l:List (Nat × α)} {n m:Nat} {v:α} (h:(m,v)∈del l n):(m,v)∈l∧m≠n:=by
 induction l with
 | nil=>simp [del] at h
 | cons p r ih =>
   obtain ⟨i,x⟩:=p
   simp only [del] at h
   cases hb:Nat.beq i n
   ·simp only [hb,cond_false] at h
    rcases List.mem_cons.1 h with h|h
    ·simp only [Prod.mk.injEq] at h
     obtain ⟨rfl,rfl⟩:=h
     exact ⟨List.mem_cons_self,fun e=>by subst e;simp at hb⟩
    ·exact ⟨List.mem_cons_of_mem _ (ih h).1,(ih h).2⟩
   ·simp only [hb,cond_true] at h
    exact ⟨List.mem_cons_of_mem _ (ih h).1,(ih h).2⟩
theorem Zhk {t:Nat} {C:Cnd} (h:ZcI t C=false):∀ d u,(d,u)∈C→d≠t:=by
 induction C with
 | nil=>intro d u h;cases h
 | cons p r ih =>
   obtain ⟨i,x⟩:=p
   simp only [ZcI,Bool.or_eq_false_iff] at h
   intro d u hm
   rcases List.mem_cons.1 hm with hm|hm
   ·simp only [Prod.mk.injEq] at hm
    obtain ⟨rfl,rfl⟩:=hm
    intro e;subst e;simp at h
   ·exact ih h.2 d u hm
theorem ZuI {α:Type} {l:List (Nat × Cnd × α)} {n m:Nat} {C:Cnd} {v:α} (h:(m,C,v)∈ZiG l n):(m,C,v)∈l∧m≠n∧ZcI n C=false:=by
 induction l with
 | nil=>simp [ZiG] at h
 | cons p r ih =>
   obtain ⟨i,D,x⟩:=p
   simp only [ZiG] at h
   cases hb:(Nat.beq i n||ZcI n D)
   ·simp only [hb,cond_false] at h
    rcases List.mem_cons.1 h with h|h
    ·simp only [Prod.mk.injEq] at h
     obtain ⟨rfl,rfl,rfl⟩:=h
     simp only [Bool.or_eq_false_iff] at hb
     exact ⟨List.mem_cons_self,fun e=>by subst e;simp at hb,hb.2⟩
    ·exact ⟨List.mem_cons_of_mem _ (ih h).1,(ih h).2⟩
   ·simp only [hb,cond_true] at h
    exact ⟨List.mem_cons_of_mem _ (ih h).1,(ih h).2⟩
theorem Zav {α:Type} {l l':List α} (h:ZaG l=some l'):l'=l:=by
 induction l generalizing l' with
 | nil=>simp [ZaG] at h;exact h ▸ rfl
 | cons x r ih =>
   simp only [ZaG] at h
   split at h
   ·rename_i q hq
    obtain rfl:=Option.some.inj h
    rw [ih hq]
   ·cases h
theorem ZjV {hp hp':Hp} {set:List (Nat × Option AB)} (h:setS hp set=some hp'):hp'=Zba hp set:=by
 unfold setS at h
 split at h
 ·exact (Option.some.inj h).symm
 ·exact Zav h
theorem ZlI {d:Nat} {u:Bool} {C:Cnd} (h:memC d u C=true):(d,u)∈C:=by
 induction C with
 | nil=>simp [memC] at h
 | cons p r ih =>
   obtain ⟨i,x⟩:=p
   simp only [memC] at h
   cases hb:(Nat.beq i d&&Zc9 x u)
   ·simp only [hb,cond_false] at h;exact List.mem_cons_of_mem _ (ih h)
   ·simp only [Bool.and_eq_true] at hb
    obtain rfl:=Nat.eq_of_beq_eq_true hb.1
    have:x=u:=by cases x<;>cases u<;>simp [Zc9] at hb ⊢
    subst this
    exact List.mem_cons_self
theorem ZfX {tmps:Array Value} {C C':Cnd} (h:ZtD C' C=true) (hh:Za5 tmps C):Za5 tmps C':=by
 induction C' with
 | nil=>intro d u hm;cases hm
 | cons p r ih =>
   obtain ⟨i,x⟩:=p
   simp only [ZtD,Bool.and_eq_true] at h
   intro d u hm
   rcases List.mem_cons.1 hm with hm|hm
   ·simp only [Prod.mk.injEq] at hm
    obtain ⟨rfl,rfl⟩:=hm
    exact hh _ _ (ZlI h.1)
   ·exact ih h.2 d u hm
theorem Zik {tmps:Array Value} {t:Nat} {b:Bool} {C C':Cnd} (h:ZmQ t b C C'=true) (hh:Za5 tmps C) (ht:tmps[t]?=some (.bool b)):Za5 tmps C':=by
 induction C' with
 | nil=>intro d u hm;cases hm
 | cons p r ih =>
   obtain ⟨i,x⟩:=p
   simp only [ZmQ,Bool.and_eq_true,Bool.or_eq_true] at h
   intro d u hm
   rcases List.mem_cons.1 hm with hm|hm
   ·simp only [Prod.mk.injEq] at hm
    obtain ⟨rfl,rfl⟩:=hm
    rcases h.1 with h1|⟨h1,h2⟩
    ·exact hh _ _ (ZlI h1)
    ·obtain rfl:=Nat.eq_of_beq_eq_true h2
     have:u=b:=by cases u<;>cases b<;>simp [Zc9] at h1 ⊢
     subst this
     exact ht
   ·exact ih h.2 d u hm
section
variable {X:Nat→Prop} {P:Program} {B:Nat} {W0:World} {O0:Nat→Prop} {ρ0 ρ:Nat→Option Nat} {s:AS} {a:Act} {w:World}
theorem Sim.slot (S:Sim X B W0 O0 ρ0 ρ s a w) {t:Nat} {C:Cnd} {v:AV} (h:lk2 s.lf s.fr t=some (C,v)) :
 ∃ u,a.tmps[t]?=some u∧(Za5 a.tmps C→Rep w (Own X ρ s.hp) ρ s.nx v u)∧(¬ Za5 a.tmps C→u=undef):=by
 unfold lk2 at h
 split at h
 ·rename_i x hx
  obtain rfl:=Option.some.inj h
  exact S.lf t C v (Zfm hx)
 ·split at h
  ·rename_i v' hv
   simp only [Option.some.injEq,Prod.mk.injEq] at h
   obtain ⟨rfl,rfl⟩:=h
   obtain ⟨u,hu,hr⟩:=S.fr t v' hv
   exact ⟨u,hu,fun _=>hr,fun hn=>absurd (fun d u hm=>by cases hm) hn⟩
  ·cases h
theorem Sim.reads (S:Sim X B W0 O0 ρ0 ρ s a w) {C:Cnd} (hC:Za5 a.tmps C):ZfB w (Own X ρ s.hp) ρ s.nx (ZbV s.lf s.fr C) a.eval:=by
 intro x v h
 unfold ZbV at h
 split at h
 ·rename_i t
  split at h
  ·rename_i C' v' hl
   cases hs:ZtD C' C
   ·simp [hs] at h
   ·simp only [hs,cond_true,Option.some.injEq] at h
    subst h
    obtain ⟨u,hu,hr,_⟩:=S.slot hl
    have:a.eval (.tmp t)=u:=by simp [Act.eval,hu]
    rw [this]
    exact hr (ZfX hs hC)
  ·cases h
 ·exact ZcD h
 ·obtain rfl:=Option.some.inj h
  exact .fn _ [] [] #[] #[] rfl rfl (fun j a u h=>by simp at h) (fun j a u h=>by simp at h)
 ·cases h
def ZbS (ops:Array Oper) (tmps:Array Value):Option (Nat × Bool)→Bool
 | none=>true
 | some (j,w)=>yielded ops tmps j == some w
theorem ZaU (ops:Array Oper) (tmps:Array Value) (o:Oper):Region.wanted o (yielded ops tmps)=ZbS ops tmps o.guard:=by
 unfold Region.wanted ZbS
 cases o.guard<;>rfl
theorem Zbj (S:Sim X B W0 O0 ρ0 ρ s a w) {ops:Array Oper} {g:Option (Nat × Bool)} {C:Cnd} {tg':List (Nat × Bool)} (h:ZcK ops s.lf s.fr s.tg g=some (C,tg')) :
 (ZbS ops a.tmps g=true↔Za5 a.tmps C)∧(∀ (d:Nat) (b:Bool),(d,b)∈tg'→∀ x,a.tmps[d]?=some (.bool x)→x=b):=by
 unfold ZcK at h
 split at h
 ·simp only [Option.some.injEq,Prod.mk.injEq] at h
  obtain ⟨rfl,rfl⟩:=h
  exact ⟨⟨fun _ d u hm=>(by cases hm),fun _=>rfl⟩,S.tg⟩
 ·rename_i j want
  split at h
  ·rename_i d hd
   split at h
   ·rename_i Cd b hl
    simp only [Option.some.injEq,Prod.mk.injEq] at h
    obtain ⟨rfl,rfl⟩:=h
    obtain ⟨u,hu,hr1,hr2⟩:=S.slot hl
    have key:∀ x,a.tmps[d]?=some (.bool x)→x=b∧Za5 a.tmps Cd:=by
     intro x hx
     obtain rfl:u=.bool x:=Option.some.inj (hu.symm.trans hx)
     by_cases hh:Za5 a.tmps Cd
     ·have:=hr1 hh;cases this;exact ⟨rfl,hh⟩
     ·have:=hr2 hh;cases this
    have hy:yielded ops a.tmps j=match u with|.bool b=>some b|_=>none:=by
     unfold yielded
     rw [hd]
     simp only [Option.bind_some,hu]
     cases u<;>rfl
    refine ⟨⟨fun hw=>?_,fun hh=>?_⟩,fun d' b' hm x hx=>?_⟩
    ·have hw':yielded ops a.tmps j=some want:=by simpa [ZbS] using hw
     rw [hy] at hw'
     have hub:u=.bool want:=by
      revert hw';cases u<;>intro hw'<;>first|(cases hw';rfl)|cases hw'
     subst hub
     obtain ⟨_,hh⟩:=key want hu
     intro d' u' hm
     rcases List.mem_cons.1 hm with hm|hm
     ·simp only [Prod.mk.injEq] at hm
      obtain ⟨rfl,rfl⟩:=hm
      exact hu
     ·exact hh d' u' hm
    ·have:=hh d want List.mem_cons_self
     obtain rfl:u=.bool want:=Option.some.inj (hu.symm.trans this)
     simp [ZbS,hy]
    ·rcases List.mem_cons.1 hm with hm|hm
     ·simp only [Prod.mk.injEq] at hm
      obtain ⟨rfl,rfl⟩:=hm
      exact (key x hx).1
     ·exact S.tg d' b' hm x hx
   ·cases h
  ·cases h
theorem Zve {α:Type} {l l':List α} (h:ZaG l=some l'):l'=l:=by
 induction l generalizing l' with
 | nil=>simp [ZaG] at h;exact h
 | cons x r ih =>
   simp only [ZaG] at h
   split at h
   ·rename_i l2 h2
    rw [ih h2] at h
    exact (Option.some.inj h).symm
   ·cases h
theorem ZbL {tmps:Array Value} {tg:List (Nat × Bool)} (htg:∀ (d:Nat) (b:Bool),(d,b)∈tg→∀ x,tmps[d]?=some (.bool x)→x=b) :
 ∀ {C:Cnd} {p:Prop},Zy9 tg C p→Za5 tmps C→p
 | [],p,h,_=>h
 | (d,u)::C,p,h,hh=>by
   have hC:Za5 tmps C:=fun d u hm=>hh d u (List.mem_cons_of_mem _ hm)
   unfold Zy9 ZvS at h
   split at h
   ·rename_i b hb
    have:=htg d b (Zfm hb) u (hh d u List.mem_cons_self)
    exact ZbL htg (show Zy9 tg C p from h this.symm) hC
   ·exact ZbL htg (show Zy9 tg C p from h) hC
theorem Zgv {tmps:Array Value} {tg:List (Nat × Bool)} (htg:∀ (d:Nat) (b:Bool),(d,b)∈tg→∀ x,tmps[d]?=some (.bool x)→x=b) {C:Cnd} (hh:Za5 tmps C) :
 ∀ {obs:List Ob},ZaS (ZsK (ZvS tg C) obs)→ZaS obs
 | [],_=>trivial
 | p::r,h=>⟨ZbL htg (C:=C) h.1 hh,Zgv htg hh h.2⟩
theorem Zbn {tmps:Array Value} {tg:List (Nat × Bool)} (htg:∀ (d:Nat) (b:Bool),(d,b)∈tg→∀ x,tmps[d]?=some (.bool x)→x=b) {C:Cnd} (hh:Za5 tmps C)
 {obs:List Ob} (h:ZaS (ZgG tg C obs)):ZaS obs:=by
 unfold ZgG at h
 split at h
 ·rename_i cs hcs
  rw [Zve hcs] at h
  exact Zgv htg hh h
 ·exact h.1.elim
theorem Zng {a:Act} {t:Nat} {u:Value} (ht:t<a.tmps.size):(a.put (some t) u).tmps[t]?=some u:=by
 simp [Act.put,ht]
theorem ZbK {a:Act} {t t':Nat} {u:Value} (h:t'≠t):(a.put (some t) u).tmps[t']?=a.tmps[t']?:=by
 simp [Act.put,Ne.symm h]
theorem ZcA {a:Act} {t:Nat} {u:Value} {C:Cnd} (h:ZcI t C=false):Za5 (a.put (some t) u).tmps C↔Za5 a.tmps C:=by
 constructor<;>intro hh d x hm
 ·rw [← ZbK (u:=u) (Zhk h d x hm)];exact hh d x hm
 ·rw [ZbK (Zhk h d x hm)];exact hh d x hm
end
end
section
section
variable {X:Nat→Prop} {P:Program} {B:Nat} {W0:World} {O0:Nat→Prop} {ρ0 ρ:Nat→Option Nat}
theorem Sim.world {fr:Fr} {lf:List (Nat × Cnd × AV)} {tg:List (Nat × Bool)} {hp hp':Hp} {nx nx' nt:Nat} {a:Act} {w w':World} {ρ':Nat→Option Nat} (S:Sim X B W0 O0 ρ0 ρ ⟨fr,lf,tg,hp,nx,nt⟩ a w)
 (H:HRep X w' ρ' nx' hp') (E:Evo X w (Own X ρ hp) ρ nx w' (Own X ρ' hp') ρ' nx') (ho:w'.os=w.os) (hu:w'.output=w.output):Sim X B W0 O0 ρ0 ρ' ⟨fr,lf,tg,hp',nx',nt⟩ a w' where
 size:=S.size
 fr:=S.fr.mono E
 lf t C v hm:=by
  obtain ⟨u,h1,h2,h3⟩:=S.lf t C v hm
  exact ⟨u,h1,fun hh=>(h2 hh).mono E,h3⟩
 tg:=S.tg
 heap:=H
 base:=S.base.step E ho hu
 le:=Nat.le_trans S.le E.nx
 names n hn:=(E.names n (Nat.lt_of_lt_of_le hn S.le)).trans (S.names n hn)
 marks:=S.marks.step E
theorem Sim.put {fr:Fr} {lf:List (Nat × Cnd × AV)} {tg:List (Nat × Bool)} {hp:Hp} {nx nt t:Nat} {a:Act} {w:World} {v:AV} {u:Value} (S:Sim X B W0 O0 ρ0 ρ ⟨fr,lf,tg,hp,nx,nt⟩ a w)
 (ht:t<nt) (hv:Rep w (Own X ρ hp) ρ nx v u):Sim X B W0 O0 ρ0 ρ ⟨(t,v)::fr,ZiG lf t,del tg t,hp,nx,nt⟩ (a.put (some t) u) w where
 size:=by simpa [Act.put] using S.size
 fr t' v' h:=by
  have hs:t<a.tmps.size:=by rw [S.size];exact ht
  by_cases h':t'=t
  ·subst h'
   rw [ZaA] at h
   obtain rfl:=Option.some.inj h
   exact ⟨u,Zng hs,hv⟩
  ·rw [Zas _ _ h'] at h
   obtain ⟨x,hx,hr⟩:=S.fr t' v' h
   exact ⟨x,by rw [ZbK h'];exact hx,hr⟩
 lf t' C v' h:=by
  obtain ⟨h1,h2,h3⟩:=ZuI h
  obtain ⟨x,hx,g1,g2⟩:=S.lf t' C v' h1
  exact ⟨x,by rw [ZbK h2];exact hx,fun hh=>g1 ((ZcA h3).1 hh),fun hh=>g2 (fun h=>hh ((ZcA h3).2 h))⟩
 tg d b h x hx:=by
  obtain ⟨h1,h2⟩:=Zza h
  rw [ZbK h2] at hx
  exact S.tg d b h1 x hx
 heap:=S.heap
 base:=S.base
 le:=S.le
 names:=S.names
 marks:=S.marks
theorem Sim.putC {fr:Fr} {lf:List (Nat × Cnd × AV)} {tg:List (Nat × Bool)} {hp:Hp} {nx nt t:Nat} {a:Act} {w:World} {v:AV} {u:Value} {C:Cnd} (S:Sim X B W0 O0 ρ0 ρ ⟨fr,lf,tg,hp,nx,nt⟩ a w)
 (ht:t<nt) (hC:ZcI t C=false) (hv:Za5 a.tmps C→Rep w (Own X ρ hp) ρ nx v u) (hn:¬ Za5 a.tmps C→u=undef) :
 Sim X B W0 O0 ρ0 ρ ⟨(t,.any)::fr,(t,C,v)::ZiG lf t,del tg t,hp,nx,nt⟩ (a.put (some t) u) w:=by
 have S':=S.put ht (v:=.any) (u:=u) (.any u)
 have hs:t<a.tmps.size:=by rw [S.size];exact ht
 exact { S' with
  lf:=fun t' C' v' h=>by
   rcases List.mem_cons.1 h with h|h
   ·simp only [Prod.mk.injEq] at h
    obtain ⟨rfl,rfl,rfl⟩:=h
    exact ⟨u,Zng hs,fun hh=>hv ((ZcA hC).1 hh),fun hh=>hn (fun h=>hh ((ZcA hC).2 h))⟩
   ·exact S'.lf t' C' v' h }
theorem Sim.tags {fr:Fr} {lf:List (Nat × Cnd × AV)} {tg tg':List (Nat × Bool)} {hp:Hp} {nx nt:Nat} {a:Act} {w:World} (S:Sim X B W0 O0 ρ0 ρ ⟨fr,lf,tg,hp,nx,nt⟩ a w)
 (h:∀ (d:Nat) (b:Bool),(d,b)∈tg'→∀ x,a.tmps[d]?=some (.bool x)→x=b):Sim X B W0 O0 ρ0 ρ ⟨fr,lf,tg',hp,nx,nt⟩ a w :=
 { S with tg:=h }
def OpRun (P:Program) (ops:Array Oper) (i:Nat) (a:Act) (w:World) (a':Act) (w':World):Prop :=
 match ops[i]? with
 | none=>a'=a∧w'=w
 | some o=>if Region.wanted o (yielded ops a.tmps) then
    (∃ u,(execOp a.eval o).run P w=.ok (.value u) w'∧a'=a.put o.dst u)∨((execOp a.eval o).run P w=.ok .skip w'∧a'=a.put o.dst undef)
   else a'=a.put o.dst undef∧w'=w
theorem ZcY {ops:Array Oper} {i:Nat} {o:Oper} {C:Cnd} {tg':List (Nat × Bool)} {out:Out} {fr:Fr} {lf:List (Nat × Cnd × AV)} {tg:List (Nat × Bool)} {hp:Hp} {nx nt:Nat}
 {s':AS} {obs:List Ob} {a:Act} {w:World} (S:Sim X B W0 O0 ρ0 ρ ⟨fr,lf,tg,hp,nx,nt⟩ a w) (hi:ops[i]?=some o)
 (hg:ZbS ops a.tmps o.guard=true↔Za5 a.tmps C) (htg:∀ (d:Nat) (b:Bool),(d,b)∈tg'→∀ x,a.tmps[d]?=some (.bool x)→x=b)
 (h:finish o.dst C tg' out ⟨fr,lf,tg,hp,nx,nt⟩=some (s',obs)) (hobs:ZaS obs)
 (hop:Za5 a.tmps C→ZaS out.obs→OpOK X w ρ nx hp ((execOp a.eval o).run P w) out.set out.new out.val) :
 ∃ a' w' ρ',OpRun P ops i a w a' w'∧Sim X B W0 O0 ρ0 ρ' s' a' w':=by
 obtain ⟨set,new,val,ob⟩:=out
 unfold finish at h
 dsimp only at h hop
 have S2:=S.tags htg
 split at h
 ·-- without conditions
  have hC:Za5 a.tmps []:=fun d u hm=>(by cases hm)
  have hw:Region.wanted o (yielded ops a.tmps)=true:=by rw [ZaU];exact hg.2 hC
  split at h
  ·cases h
  ·rename_i hp' hhp
   obtain rfl:=ZjV hhp
   have fin:∀ (u:Value) (w':World) (ρ':Nat→Option Nat),((execOp a.eval o).run P w=.ok (.value u) w'∨((execOp a.eval o).run P w=.ok .skip w'∧u=undef))→OpRun P ops i a w (a.put o.dst u) w':=by
    intro u w' ρ' hr
    unfold OpRun
    rw [hi]
    dsimp only
    rw [if_pos hw]
    rcases hr with hr|⟨hr,rfl⟩
    ·exact .inl ⟨u,hr,rfl⟩
    ·exact .inr ⟨hr,rfl⟩
   split at h
   ·rename_i t hd
    cases hlt:Nat.blt t nt
    ·simp [hlt] at h
    ·simp only [hlt,cond_true] at h
     have ht:t<nt:=by simpa [Nat.blt_eq] using hlt
     have h:=Zbu h
     split at h
     ·cases h
     ·rename_i lf' hlf
      obtain rfl:=Zav hlf
      split at h
      ·cases h
      ·rename_i tg2 htg2
       obtain rfl:=Zav htg2
       split at h
       ·rename_i ab
        simp only [Option.some.injEq,Prod.mk.injEq] at h
        obtain ⟨rfl,rfl⟩:=h
        obtain ⟨u,w',ρ',hr,hrep,H',E',ho,hu⟩:=hop hC hobs
        refine ⟨a.put o.dst u,w',ρ',fin u w' ρ' hr,?_⟩
        rw [hd]
        exact (S2.world H' E' ho hu).put ht hrep
       ·simp only [Option.some.injEq,Prod.mk.injEq] at h
        obtain ⟨rfl,rfl⟩:=h
        obtain ⟨u,w',ρ',hr,hrep,H',E',ho,hu⟩:=hop hC hobs
        refine ⟨a.put o.dst u,w',ρ',fin u w' ρ' hr,?_⟩
        rw [hd]
        exact (S2.world H' E' ho hu).put ht hrep
   ·rename_i hd
    split at h
    ·cases h
    ·simp only [Option.some.injEq,Prod.mk.injEq] at h
     obtain ⟨rfl,rfl⟩:=h
     obtain ⟨u,w',ρ',hr,hrep,H',E',ho,hu⟩:=hop hC hobs
     refine ⟨a.put o.dst u,w',ρ',fin u w' ρ' hr,?_⟩
     rw [hd]
     exact S2.world H' E' ho hu
 ·-- under conditions
  rename_i c C'
  split at h
  ·rename_i t hd
   cases hlt:(Nat.blt t nt&&!ZcI t (c::C'))
   ·simp [hlt] at h
   ·simp only [hlt,cond_true] at h
    simp only [Bool.and_eq_true,Bool.not_eq_true'] at hlt
    have ht:t<nt:=by simpa [Nat.blt_eq] using hlt.1
    have h:=Zbu h
    split at h
    ·cases h
    ·rename_i obs' hob
     obtain rfl:=Zav hob
     split at h
     ·cases h
     ·rename_i lf' hlf
      obtain rfl:=Zav hlf
      split at h
      ·cases h
      ·rename_i tg2 htg2
       obtain rfl:=Zav htg2
       simp only [Option.some.injEq,Prod.mk.injEq] at h
       obtain ⟨rfl,rfl⟩:=h
       by_cases hh:Za5 a.tmps (c::C')
       ·have hw:Region.wanted o (yielded ops a.tmps)=true:=by rw [ZaU];exact hg.2 hh
        obtain ⟨u,w',ρ',hr,hrep,H',E',ho,hu⟩:=hop hh (Zbn htg hh hobs)
        refine ⟨a.put o.dst u,w',ρ',?_,?_⟩
        ·unfold OpRun
         rw [hi]
         dsimp only
         rw [if_pos hw]
         rcases hr with hr|⟨hr,rfl⟩
         ·exact .inl ⟨u,hr,rfl⟩
         ·exact .inr ⟨hr,rfl⟩
        ·rw [hd]
         exact (S2.world H' E' ho hu).putC ht hlt.2 (fun _=>hrep) (fun hn=>absurd hh hn)
       ·have hw:Region.wanted o (yielded ops a.tmps)=false:=by
         rw [ZaU]
         cases hq:ZbS ops a.tmps o.guard
         ·rfl
         ·exact absurd (hg.1 hq) hh
        refine ⟨a.put o.dst undef,w,ρ,?_,?_⟩
        ·unfold OpRun
         rw [hi]
         dsimp only
         rw [if_neg (by simp [hw])]
         exact ⟨rfl,rfl⟩
        ·rw [hd]
         exact S2.putC ht hlt.2 (fun h=>absurd h hh) (fun _=>rfl)
  ·cases h
theorem ZoP {fr:Fr} {lf:List (Nat × Cnd × AV)} {tg:List (Nat × Bool)} {hp:Hp} {nx nt:Nat} {a:Act} {w:World} (S:Sim X B W0 O0 ρ0 ρ ⟨fr,lf,tg,hp,nx,nt⟩ a w) {C:Cnd} {c x y:Operand} {v:AV}
 (h:Zrr lf fr C c x y=some v) (hh:Za5 a.tmps C) {o:Oper} (ho:o.op=.pick c x y):∃ u,(execOp a.eval o).run P w=.ok (.value u) w∧Rep w (Own X ρ hp) ρ nx v u:=by
 have ev:∀ (t:Nat) (u:Value),a.tmps[t]?=some u→a.eval (.tmp t)=u:=fun t u h=>by simp [Act.eval,h]
 have evc:∀ (v:Value),a.eval (.const v)=v:=fun v=>rfl
 unfold Zrr at h
 split at h
 ·rename_i ct yt
  split at h
  ·rename_i Cc cb hc
   split at h
   ·rename_i Cy yb hy
    cases hg:(ZtD Cc C&&ZmQ ct false C Cy)
    ·simp [hg] at h
    ·simp only [hg,cond_true,Option.some.injEq] at h
     subst h
     simp only [Bool.and_eq_true] at hg
     obtain ⟨u1,h1,r1,_⟩:=S.slot hc
     have q1:=r1 (ZfX hg.1 hh)
     cases q1
     obtain ⟨u2,h2,r2,_⟩:=S.slot hy
     cases cb
     ·have q2:=r2 (Zik hg.2 hh h1)
      cases q2
      exact ⟨.bool yb,by simp [execOp,ho,ev _ _ h1,ev _ _ h2,asBool],by simpa using Rep.bool yb⟩
     ·exact ⟨.bool true,by simp [execOp,ho,ev _ _ h1,asBool,evc],by simpa using Rep.bool true⟩
   ·cases h
  ·cases h
 ·rename_i ct yt
  split at h
  ·rename_i Cc cb hc
   split at h
   ·rename_i Cy yb hy
    cases hg:(ZtD Cc C&&ZmQ ct true C Cy)
    ·simp [hg] at h
    ·simp only [hg,cond_true,Option.some.injEq] at h
     subst h
     simp only [Bool.and_eq_true] at hg
     obtain ⟨u1,h1,r1,_⟩:=S.slot hc
     have q1:=r1 (ZfX hg.1 hh)
     cases q1
     obtain ⟨u2,h2,r2,_⟩:=S.slot hy
     cases cb
     ·exact ⟨.bool false,by simp [execOp,ho,ev _ _ h1,asBool,evc],by simpa using Rep.bool false⟩
     ·have q2:=r2 (Zik hg.2 hh h1)
      cases q2
      exact ⟨.bool yb,by simp [execOp,ho,ev _ _ h1,ev _ _ h2,asBool],by simpa using Rep.bool yb⟩
   ·cases h
  ·cases h
 ·cases h
theorem ZrA {ops:Array Oper} {i:Nat} {s s':AS} {obs:List Ob} {a:Act} {w:World} (S:Sim X B W0 O0 ρ0 ρ s a w) (h:Zht P ops i s=some (s',obs)) (hobs:ZaS obs) :
 ∃ a' w' ρ',OpRun P ops i a w a' w'∧Sim X B W0 O0 ρ0 ρ' s' a' w':=by
 obtain ⟨fr,lf,tg,hp,nx,nt⟩:=s
 unfold Zht at h
 dsimp only at h
 split at h
 ·cases h
 ·rename_i o hi
  split at h
  ·cases h
  ·rename_i C tg' hgd
   obtain ⟨hg,htg⟩:=Zbj S hgd
   split at h
   ·rename_i c x y hop
    split at h
    ·rename_i v hv
     refine ZcY S hi hg htg h hobs fun hh _=>?_
     obtain ⟨u,hu,hr⟩:=ZoP (P:=P) S hv hh hop
     exact ZaZ S.heap hu hr
    ·cases h
   ·split at h
    ·cases h
    ·rename_i rd k hE
     split at h
     ·cases h
     ·rename_i bs hbs
      split at h
      ·rename_i out hk
       refine ZcY S hi hg htg h hobs fun hh ho=>?_
       exact ZgR S.heap (S.reads hh) hE bs out.set out.new out.val out.obs hbs hk ho
      ·cases h
end
end
end Go.Proofs.YtncoiadeipbonaaGreat.Ab
