import Derived.Test.YtncoiadeipbonaaGreatZ17
namespace Go.Proofs.YtncoiadeipbonaaGreat.Ab
set_option linter.unusedVariables false
set_option linter.unusedSimpArgs false
section
set_option maxRecDepth 100000
section
variable {α:Type}
def gI (k:Int→List AV→Option α):List AV→Option α
 | .int .i64 n::t=>k n t
 | _=>none
theorem ZaP {k:Int→List AV→Option α} {l:List AV} {r:α} (h:gI k l=some r):∃ n t,l=.int .i64 n::t∧k n t=some r:=by
 unfold gI at h
 split at h
 ·exact ⟨_,_,rfl,h⟩
 ·cases h
def gB (k:Bool→List AV→Option α):List AV→Option α
 | .bool n::t=>k n t
 | _=>none
theorem ZqC {k:Bool→List AV→Option α} {l:List AV} {r:α} (h:gB k l=some r):∃ n t,l=.bool n::t∧k n t=some r:=by
 unfold gB at h
 split at h
 ·exact ⟨_,_,rfl,h⟩
 ·cases h
def gS (k:ByteArray→List AV→Option α):List AV→Option α
 | .str n::t=>k n t
 | _=>none
theorem gS_ok {k:ByteArray→List AV→Option α} {l:List AV} {r:α} (h:gS k l=some r):∃ n t,l=.str n::t∧k n t=some r:=by
 unfold gS at h
 split at h
 ·exact ⟨_,_,rfl,h⟩
 ·cases h
def gP (k:List St→List AV→Option α):List AV→Option α
 | v::t=>match deP v with
   | some p=>match wfP p&&Nat.ble p.length 1000000 with
     | true=>k p t
     | false=>none
   | none=>none
 | []=>none
theorem gP_ok {k:List St→List AV→Option α} {l:List AV} {r:α} (h:gP k l=some r):∃ v p t,l=v::t∧Le2 v (pA p)∧(∀ s∈p,wfS s)∧p.length≤1000000∧k p t=some r:=by
 unfold gP at h
 split at h
 ·split at h
  ·rename_i p hp
   split at h
   ·rename_i hb
    simp only [Bool.and_eq_true] at hb
    exact ⟨_,p,_,rfl,.of (deP_ok hp),ZvY hb.1,Nat.le_of_ble_eq_true hb.2,h⟩
   ·cases h
  ·cases h
 ·cases h
def gD (k:List Int→List AV→Option α):List AV→Option α
 | v::t=>match deIL v with
   | some d=>match Nat.ble d.length 1000000 with
     | true=>k d t
     | false=>none
   | none=>none
 | []=>none
theorem gD_ok {k:List Int→List AV→Option α} {l:List AV} {r:α} (h:gD k l=some r):∃ v p t,l=v::t∧Le2 v (isA p)∧p.length≤1000000∧k p t=some r:=by
 unfold gD at h
 split at h
 ·split at h
  ·rename_i p hp
   split at h
   ·rename_i hb
    exact ⟨_,p,_,rfl,.of (ZyE hp),Nat.le_of_ble_eq_true hb,h⟩
   ·cases h
  ·cases h
 ·cases h
def gE (wd:Nat) (k:List AV→Option α):List AV→Option α
 | .esl::t=>k t
 | .isl w2 []::t=>match Nat.beq w2 wd with
   | true=>k t
   | false=>none
 | _=>none
theorem gE_ok {wd:Nat} {k:List AV→Option α} {l:List AV} {r:α} (h:gE wd k l=some r):∃ v t,l=v::t∧Le2 v (.isl wd [])∧k t=some r:=by
 unfold gE at h
 split at h
 ·exact ⟨_,_,rfl,.of (.esl wd),h⟩
 ·split at h
  ·rename_i hb
   obtain rfl:=Nat.eq_of_beq_eq_true hb
   exact ⟨_,_,rfl,.rfl _,h⟩
  ·cases h
 ·cases h
def gC (k:List AV→List AV→Option α):List AV→Option α
 | .esl::t=>k [] t
 | .isl w2 xs::t=>match Nat.beq w2 2&&Zaf xs with
   | true=>k xs t
   | false=>none
 | _=>none
theorem gC_ok {k:List AV→List AV→Option α} {l:List AV} {r:α} (h:gC k l=some r):∃ v xs t,l=v::t∧Le2 v (.isl 2 xs)∧Zaf xs=true∧k xs t=some r:=by
 unfold gC at h
 split at h
 ·exact ⟨_,[],_,rfl,.of (.esl 2),rfl,h⟩
 ·split at h
  ·rename_i hb
   rw [Bool.and_eq_true] at hb
   obtain rfl:=Nat.eq_of_beq_eq_true hb.1
   exact ⟨_,_,_,rfl,.rfl _,hb.2,h⟩
  ·cases h
 ·cases h
def g0 (a:α):List AV→Option α
 | []=>some a
 | _=>none
theorem g0_ok {a:α} {l:List AV} {r:α} (h:g0 a l=some r):l=[]∧a=r:=by
 unfold g0 at h
 split at h
 ·cases h;exact ⟨rfl,rfl⟩
 ·cases h
end
def ZsY:List AV→Option Mk:=gI (fun k=>gP (fun p=>gB (fun ev=>gI (fun zw=>gI (fun zc=>gI (fun zj=>gI (fun zl=>gD (fun zd=>gI (fun zp=>gI (fun cw=>gI (fun ch=>gI (fun cn=>gS (fun ct=>gI (fun ca=>gI (fun cb=>gI (fun cc=>gI (fun cd=>gI (fun ce=>gI (fun cf=>gI (fun qk=>gI (fun qia=>gI (fun qib=>gI (fun qic=>gI (fun qid=>gI (fun qsk=>gI (fun qsfx=>gI (fun qsfy=>gI (fun qstx=>gI (fun qsty=>gI (fun qsr0=>gI (fun qsr1=>gI (fun qsa0=>gI (fun qsa1=>gI (fun qsa2=>gI (fun qsa3=>gI (fun qsb0=>gI (fun qsb1=>gI (fun qsb2=>gI (fun qsb3=>gB (fun qse0=>gB (fun qse1=>gE 47 (gI (fun qw=>gI (fun qh=>gI (fun qx=>gI (fun qy=>gC (fun cl=>g0 (⟨k,p,ev,⟨zw,zc,zj,zl,zd,zp⟩,⟨cw,ch,cn,ct,ca,cb,cc,cd,ce,cf⟩,⟨qk,⟨qia,qib,qic,qid⟩,⟨qsk,qsfx,qsfy,qstx,qsty,qsr0,qsr1,qsa0,qsa1,qsa2,qsa3,qsb0,qsb1,qsb2,qsb3,qse0,qse1⟩,qw,qh,qx,qy⟩,[],cl⟩:Mk))))))))))))))))))))))))))))))))))))))))))))))))
def mkC (m:Mk):List AV:=(ZbL m).cells
theorem Zm7 {l:List AV} {m:Mk} (h:ZsY l=some m):LeL2 l (mkC m)∧WfC m:=by
 unfold ZsY at h
 obtain ⟨k,t0,rfl,h0⟩:=ZaP h
 obtain ⟨vp,p,t1,rfl,lp,wp,np,h1⟩:=gP_ok h0
 obtain ⟨ev,t2,rfl,h2⟩:=ZqC h1
 obtain ⟨zw,t3,rfl,h3⟩:=ZaP h2
 obtain ⟨zc,t4,rfl,h4⟩:=ZaP h3
 obtain ⟨zj,t5,rfl,h5⟩:=ZaP h4
 obtain ⟨zl,t6,rfl,h6⟩:=ZaP h5
 obtain ⟨vzd,zd,t7,rfl,lzd,nzd,h7⟩:=gD_ok h6
 obtain ⟨zp,t8,rfl,h8⟩:=ZaP h7
 obtain ⟨cw,t9,rfl,h9⟩:=ZaP h8
 obtain ⟨ch,t10,rfl,h10⟩:=ZaP h9
 obtain ⟨cn,t11,rfl,h11⟩:=ZaP h10
 obtain ⟨ct,t12,rfl,h12⟩:=gS_ok h11
 obtain ⟨ca,t13,rfl,h13⟩:=ZaP h12
 obtain ⟨cb,t14,rfl,h14⟩:=ZaP h13
 obtain ⟨cc,t15,rfl,h15⟩:=ZaP h14
 obtain ⟨cd,t16,rfl,h16⟩:=ZaP h15
 obtain ⟨ce,t17,rfl,h17⟩:=ZaP h16
 obtain ⟨cf,t18,rfl,h18⟩:=ZaP h17
 obtain ⟨qk,t19,rfl,h19⟩:=ZaP h18
 obtain ⟨qia,t20,rfl,h20⟩:=ZaP h19
 obtain ⟨qib,t21,rfl,h21⟩:=ZaP h20
 obtain ⟨qic,t22,rfl,h22⟩:=ZaP h21
 obtain ⟨qid,t23,rfl,h23⟩:=ZaP h22
 obtain ⟨qsk,t24,rfl,h24⟩:=ZaP h23
 obtain ⟨qsfx,t25,rfl,h25⟩:=ZaP h24
 obtain ⟨qsfy,t26,rfl,h26⟩:=ZaP h25
 obtain ⟨qstx,t27,rfl,h27⟩:=ZaP h26
 obtain ⟨qsty,t28,rfl,h28⟩:=ZaP h27
 obtain ⟨qsr0,t29,rfl,h29⟩:=ZaP h28
 obtain ⟨qsr1,t30,rfl,h30⟩:=ZaP h29
 obtain ⟨qsa0,t31,rfl,h31⟩:=ZaP h30
 obtain ⟨qsa1,t32,rfl,h32⟩:=ZaP h31
 obtain ⟨qsa2,t33,rfl,h33⟩:=ZaP h32
 obtain ⟨qsa3,t34,rfl,h34⟩:=ZaP h33
 obtain ⟨qsb0,t35,rfl,h35⟩:=ZaP h34
 obtain ⟨qsb1,t36,rfl,h36⟩:=ZaP h35
 obtain ⟨qsb2,t37,rfl,h37⟩:=ZaP h36
 obtain ⟨qsb3,t38,rfl,h38⟩:=ZaP h37
 obtain ⟨qse0,t39,rfl,h39⟩:=ZqC h38
 obtain ⟨qse1,t40,rfl,h40⟩:=ZqC h39
 obtain ⟨ve41,t41,rfl,le41,h41⟩:=gE_ok h40
 obtain ⟨qw,t42,rfl,h42⟩:=ZaP h41
 obtain ⟨qh,t43,rfl,h43⟩:=ZaP h42
 obtain ⟨qx,t44,rfl,h44⟩:=ZaP h43
 obtain ⟨qy,t45,rfl,h45⟩:=ZaP h44
 obtain ⟨vcl,cl,t46,rfl,lcl,pcl,h46⟩:=gC_ok h45
 obtain ⟨rfl,rfl⟩:=g0_ok h46
 exact ⟨(.cons (.rfl _) (.cons lp (.cons (.rfl _) (.cons (.rfl _) (.cons (.rfl _) (.cons (.rfl _) (.cons (.rfl _) (.cons lzd (.cons (.rfl _) (.cons (.rfl _) (.cons (.rfl _) (.cons (.rfl _) (.cons (.rfl _) (.cons (.rfl _) (.cons (.rfl _) (.cons (.rfl _) (.cons (.rfl _) (.cons (.rfl _) (.cons (.rfl _) (.cons (.rfl _) (.cons (.rfl _) (.cons (.rfl _) (.cons (.rfl _) (.cons (.rfl _) (.cons (.rfl _) (.cons (.rfl _) (.cons (.rfl _) (.cons (.rfl _) (.cons (.rfl _) (.cons (.rfl _) (.cons (.rfl _) (.cons (.rfl _) (.cons (.rfl _) (.cons (.rfl _) (.cons (.rfl _) (.cons (.rfl _) (.cons (.rfl _) (.cons (.rfl _) (.cons (.rfl _) (.cons (.rfl _) (.cons (.rfl _) (.cons le41 (.cons (.rfl _) (.cons (.rfl _) (.cons (.rfl _) (.cons (.rfl _) (.cons lcl .nil))))))))))))))))))))))))))))))))))))))))))))))),⟨wp,np,nzd,pcl,rfl⟩,rfl⟩
def deMk:AV→Option Mk
 | .agg cs=>ZsY cs
 | _=>none
theorem ZpR {v:AV} {m:Mk} (h:deMk v=some m):Le2 v (ZbL m)∧WfC m:=by
 unfold deMk at h
 split at h
 ·obtain ⟨h1,h2⟩:=Zm7 h
  exact ⟨Le2.aggL h1,h2⟩
 ·cases h
def deMs:List AV→Option (List Mk)
 | []=>some []
 | .agg cs::r=>match ZsY cs with
   | some m=>match deMs r with
     | some l=>some (m::l)
     | none=>none
   | none=>none
 | _=>none
theorem ZqM:∀ {xs:List AV} {l:List Mk},deMs xs=some l→LeE2 xs (l.map ZbL)∧∀ m∈l,WfC m
 | [],l,h=>by cases h;exact ⟨.nil,fun m hm=>nomatch hm⟩
 | x::r,l,h=>by
   unfold deMs at h
   split at h
   ·rename_i e;cases e
   ·rename_i cs r' e
    obtain ⟨rfl,rfl⟩:=List.cons.inj e
    split at h
    ·rename_i m hm
     split at h
     ·rename_i l' hl
      cases h
      obtain ⟨h1,h2⟩:=Zm7 hm
      obtain ⟨h3,h4⟩:=ZqM hl
      exact ⟨.cons h1 h3,fun x hx=>by rcases List.mem_cons.1 hx with rfl|hx;exact h2;exact h4 x hx⟩
     ·cases h
    ·cases h
   ·cases h
section
variable {α:Type}
def gM (k:List Mk→List AV→Option α):List AV→Option α
 | .esl::t=>k [] t
 | .isl w2 xs::t=>match Nat.beq w2 47 with
   | true=>match deMs xs with
     | some l=>match Nat.ble l.length 1000000 with
       | true=>k l t
       | false=>none
     | none=>none
   | false=>none
 | _=>none
theorem gM_ok {k:List Mk→List AV→Option α} {l:List AV} {r:α} (h:gM k l=some r):∃ v ms t,l=v::t∧Le2 v (.isl 47 (ms.map ZbL))∧(∀ m∈ms,WfC m)∧ms.length≤1000000∧k ms t=some r:=by
 unfold gM at h
 split at h
 ·exact ⟨_,[],_,rfl,.of (.esl 47),(fun m hm=>nomatch hm),Nat.zero_le _,h⟩
 ·split at h
  ·rename_i hb
   obtain rfl:=Nat.eq_of_beq_eq_true hb
   split at h
   ·rename_i ms hm
    split at h
    ·rename_i hl
     obtain ⟨h1,h2⟩:=ZqM hm
     exact ⟨_,ms,_,rfl,Le2.islL h1,h2,Nat.le_of_ble_eq_true hl,h⟩
    ·cases h
   ·cases h
  ·cases h
 ·cases h
end
def dePaL:List AV→Option (Pa × List Mk):=gI (fun qk=>gI (fun qia=>gI (fun qib=>gI (fun qic=>gI (fun qid=>gI (fun qsk=>gI (fun qsfx=>gI (fun qsfy=>gI (fun qstx=>gI (fun qsty=>gI (fun qsr0=>gI (fun qsr1=>gI (fun qsa0=>gI (fun qsa1=>gI (fun qsa2=>gI (fun qsa3=>gI (fun qsb0=>gI (fun qsb1=>gI (fun qsb2=>gI (fun qsb3=>gB (fun qse0=>gB (fun qse1=>gM (fun ms=>gI (fun qw=>gI (fun qh=>gI (fun qx=>gI (fun qy=>g0 (⟨qk,⟨qia,qib,qic,qid⟩,⟨qsk,qsfx,qsfy,qstx,qsty,qsr0,qsr1,qsa0,qsa1,qsa2,qsa3,qsb0,qsb1,qsb2,qsb3,qse0,qse1⟩,qw,qh,qx,qy⟩,ms))))))))))))))))))))))))))))
def dePa:AV→Option (Pa × List Mk)
 | .agg cs=>dePaL cs
 | _=>none
theorem ZrL {v:AV} {p:Pa} {l:List Mk} (h:dePa v=some (p,l)):Le2 v (paA p (l.map ZbL))∧(∀ m∈l,WfC m)∧l.length≤1000000:=by
 unfold dePa at h
 split at h
 rotate_left
 ·cases h
 unfold dePaL at h
 obtain ⟨qk,t0,rfl,h0⟩:=ZaP h
 obtain ⟨qia,t1,rfl,h1⟩:=ZaP h0
 obtain ⟨qib,t2,rfl,h2⟩:=ZaP h1
 obtain ⟨qic,t3,rfl,h3⟩:=ZaP h2
 obtain ⟨qid,t4,rfl,h4⟩:=ZaP h3
 obtain ⟨qsk,t5,rfl,h5⟩:=ZaP h4
 obtain ⟨qsfx,t6,rfl,h6⟩:=ZaP h5
 obtain ⟨qsfy,t7,rfl,h7⟩:=ZaP h6
 obtain ⟨qstx,t8,rfl,h8⟩:=ZaP h7
 obtain ⟨qsty,t9,rfl,h9⟩:=ZaP h8
 obtain ⟨qsr0,t10,rfl,h10⟩:=ZaP h9
 obtain ⟨qsr1,t11,rfl,h11⟩:=ZaP h10
 obtain ⟨qsa0,t12,rfl,h12⟩:=ZaP h11
 obtain ⟨qsa1,t13,rfl,h13⟩:=ZaP h12
 obtain ⟨qsa2,t14,rfl,h14⟩:=ZaP h13
 obtain ⟨qsa3,t15,rfl,h15⟩:=ZaP h14
 obtain ⟨qsb0,t16,rfl,h16⟩:=ZaP h15
 obtain ⟨qsb1,t17,rfl,h17⟩:=ZaP h16
 obtain ⟨qsb2,t18,rfl,h18⟩:=ZaP h17
 obtain ⟨qsb3,t19,rfl,h19⟩:=ZaP h18
 obtain ⟨qse0,t20,rfl,h20⟩:=ZqC h19
 obtain ⟨qse1,t21,rfl,h21⟩:=ZqC h20
 obtain ⟨vms,ms,t22,rfl,lms,wms,nms,h22⟩:=gM_ok h21
 obtain ⟨qw,t23,rfl,h23⟩:=ZaP h22
 obtain ⟨qh,t24,rfl,h24⟩:=ZaP h23
 obtain ⟨qx,t25,rfl,h25⟩:=ZaP h24
 obtain ⟨qy,t26,rfl,h26⟩:=ZaP h25
 obtain ⟨rfl,he⟩:=g0_ok h26
 obtain ⟨rfl,rfl⟩:=Prod.mk.inj he
 exact ⟨Le2.aggL (.cons (.rfl _) (.cons (.rfl _) (.cons (.rfl _) (.cons (.rfl _) (.cons (.rfl _) (.cons (.rfl _) (.cons (.rfl _) (.cons (.rfl _) (.cons (.rfl _) (.cons (.rfl _) (.cons (.rfl _) (.cons (.rfl _) (.cons (.rfl _) (.cons (.rfl _) (.cons (.rfl _) (.cons (.rfl _) (.cons (.rfl _) (.cons (.rfl _) (.cons (.rfl _) (.cons (.rfl _) (.cons (.rfl _) (.cons (.rfl _) (.cons lms (.cons (.rfl _) (.cons (.rfl _) (.cons (.rfl _) (.cons (.rfl _) .nil))))))))))))))))))))))))))),wms,nms⟩
def shpX (m:Mk):Bool:=okP m.p&&!m.p.any ZaD&&(if m.k=1 then ZsF m.z else if m.k=2 then !m.ev&&Zc0 m.z&&decide ((cutX m.p m.z).2=0) else false)
theorem ZlW (m:Mk):shpX m=Zdy m:=by
 unfold shpX Zdy
 rw [Zp9,Zjz]
def drwX (m:Mk) (q:Pn):Bool:=if m.k=1 then inN (wnS q m.p) m.ev else hitB (cutX m.p m.z).1 m.z q
theorem Zwj (m:Mk) (q:Pn):drwX m q=ZlK m q:=by
 unfold drwX ZlK
 rw [Zp9,Zjz]
def drX (m:Mk) (q:Pn):AV:=match shpX m with
 | true=>match Zbt q.1 q.2 with
   | true=>ZxF (drwX m q) fun b=>.tup [.bool b,.int .i64 0]
   | false=>.tup [.bool false,.int .i64 2]
 | false=>.tup [.bool false,.int .i64 401]
theorem drX_eq (m:Mk) (q:Pn):drX m q=drV m q:=by
 unfold drX drV drE
 rw [ZlW]
 cases Zdy m
 ·rfl
 ·cases Zbt q.1 q.2
  ·rfl
  ·rw [ZfK,Zwj];rfl
def kDrw:List AV→Option KR
 | [v,qv]=>match deMk v with
   | some m=>match dePn qv with
     | some q=>some (.val (drX m q))
     | none=>none
   | none=>none
 | _=>none
theorem Zx1:KGood Tryz.prog 20 kDrw:=KGood.weak2 fun l v hv=>by
 unfold kDrw at hv
 split at hv
 ·split at hv
  ·rename_i m hm
   obtain ⟨h1,h2⟩:=ZpR hm
   split at hv
   ·rename_i q hq
    cases hv
    rw [drX_eq]
    exact ⟨_,.cons h1 (.cons (.of (.of_eq (ZwX hq))) .nil),ZxV m q h2.w⟩
   ·cases hv
  ·cases hv
 ·cases hv
def kShp:List AV→Option KR
 | [v]=>match deMk v with
   | some m=>match shpX m with
     | true=>some (.val (.int .i64 0))
     | false=>some (.val (.int .i64 401))
   | none=>none
 | _=>none
theorem ZyM:KGood Tryz.prog 18 kShp:=KGood.weak2 fun l v hv=>by
 unfold kShp at hv
 split at hv
 ·split at hv
  ·rename_i m hm
   obtain ⟨h1,h2⟩:=ZpR hm
   have hc:=Zi9 m h2.w
   unfold ZlJ at hc
   split at hv
   ·rename_i hs
    rw [ZlW] at hs
    rw [if_pos hs] at hc
    cases hv
    exact ⟨_,.cons h1 .nil,hc⟩
   ·rename_i hs
    rw [ZlW] at hs
    rw [if_neg (by rw [hs];decide)] at hc
    cases hv
    exact ⟨_,.cons h1 .nil,hc⟩
  ·cases hv
 ·cases hv
def kChk:List AV→Option KR
 | [v]=>match dePa v with
   | some (p,l)=>match paB p l with
     | true=>some (.val (.int .i64 0))
     | false=>some (.val (.int .i64 400))
   | none=>none
 | _=>none
theorem Zx4:KGood Tryz.prog 25 kChk:=KGood.weak2 fun l v hv=>by
 unfold kChk at hv
 split at hv
 ·split at hv
  ·rename_i p ms hm
   obtain ⟨h1,h2,h3⟩:=ZrL hm
   have hc:=ZvU p ms h2 h3
   unfold paE at hc
   split at hv
   ·rename_i hs
    rw [if_pos hs] at hc
    cases hv
    exact ⟨_,.cons h1 .nil,hc⟩
   ·rename_i hs
    rw [if_neg (by rw [hs];decide)] at hc
    cases hv
    exact ⟨_,.cons h1 .nil,hc⟩
  ·cases hv
 ·cases hv
def frcK {α:Type} (i:Ik) (k:Ik→α):α:=ZlL i.a fun a=>ZlL i.b fun b=>ZlL i.c fun c=>ZlL i.d fun d=>k ⟨a,b,c,d⟩
theorem Zw9 {α:Type} (i:Ik) (k:Ik→α):frcK i k=k i:=by simp only [frcK,Zdp]
def apX (p:Pa) (l:List Mk) (x y:Int):AV:=match paB p l with
 | true=>match pxB x y with
   | true=>match ofI p l x y with
     | (i,b)=>frcK i fun i=>ZxF b fun b=>.tup [ikA i,.bool b,.int .i64 0]
   | false=>.tup [ikA ik0,.bool false,.int .i64 2]
 | false=>.tup [ikA ik0,.bool false,.int .i64 400]
theorem apX_eq (p:Pa) (l:List Mk) (x y:Int):apX p l x y=apV p l x y:=by
 unfold apX apV apE
 cases paB p l
 ·rfl
 ·cases pxB x y
  ·rfl
  ·simp only [Zw9,ZfK];rfl
def kAt:List AV→Option KR
 | [v,.int .i64 x,.int .i64 y]=>match dePa v with
   | some (p,l)=>some (.val (apX p l x y))
   | none=>none
 | _=>none
theorem kAt_ok:KGood Tryz.prog 27 kAt:=KGood.weak2 fun l v hv=>by
 unfold kAt at hv
 split at hv
 ·split at hv
  ·rename_i p ms hm
   obtain ⟨h1,h2,h3⟩:=ZrL hm
   cases hv
   rw [apX_eq]
   exact ⟨_,.cons h1 (.cons (.rfl _) (.cons (.rfl _) .nil)),Zgv p ms _ _ h2 h3⟩
  ·cases hv
 ·cases hv
def ktT:ZpH:=[(20,kDrw),(18,kShp),(25,kChk),(27,kAt)]
theorem ktT_ok:KOK Tryz.prog ktT:=⟨Zx1,ZyM,Zx4,kAt_ok,trivial⟩
end
end Go.Proofs.YtncoiadeipbonaaGreat.Ab
