/- The small machine: whatever it tells of a function's call is so. No program is named here. -/
import Derived.Test.YtimbfadnabfabaaGreatDoorPf
namespace Go.Proofs.YtimbfadnabfabaaGreatDoor.Pm
open Go.RowKit

section
variable {P : Program} {E : Nat → Prop} {m : List bH} {aP φ : Nat → cg} {H : Nat → cq} {w0 w : World} {γ : ek}
def oU(φ:Nat→cg)(F:List Nat)(j:Nat):cg:=match F[j]? with | some i=>φ i | none=> .nil none
def xp(φ:Nat→cg)(M:Nat)(i:Nat):cg:=if i<M then φ i else .nil none
theorem OY(M:Nat)(F:List Nat): ∀b,b<w.heap.size→ ¬cV E φ b→ ¬Yo E (xp φ M) (oU φ F) b:=by
 intro b _ hx hy
 rcases hy with h | ⟨i,c,h⟩ | ⟨j,c,h⟩
 ·exact hx (.inl h)
 ·unfold xp at h
  split at h
  ·exact hx (.inr ⟨i,c,h⟩)
  ·cases h
 ·unfold oU at h
  split at h
  ·rename_i i _;exact hx (.inr ⟨i,c,h⟩)
  ·cases h
def BD:bH→bH→Prop
 | .box _,.box _=>True
 | .own e k cs,b=>b= .own e k cs
 | _,_=>False
mutual
theorem MW(hm:Mem E m aP w0 φ H w){bJ:List bH}(mU: ∀i b,i<m.length→(H i).b=some b→ ∃b',bJ[i]?=some b'∧BD b b'): ∀(p:PV) (ids:List Nat) (r:PV) (ids':List Nat) (v:Value),kB H m.length p ids=some (r,ids')→cJ (cV E φ) w (bh φ H) p v→
  (∃t,ids'=ids++t)∧(ids.Nodup→ids'.Nodup)∧((∀i∈ids,m.length≤i)→ ∀i∈ids',m.length≤i)∧ ∀F,(∃t,F=ids'++t)→cJ (Yo E (xp φ m.length) (oU φ F)) w (gI (xp φ m.length) bJ (oU φ F)) r v∧ ∀x∈owns r,∃i,F[x.1]?=some i∧(H i).b=some x.2
 | .d x,ids,r,ids',v,h,q=>by
  simp only [kB,Option.some.injEq,Prod.mk.injEq] at h
  obtain ⟨rfl,rfl⟩:=h
  exact ⟨⟨[],by simp⟩,id,id,fun F _=>⟨dR.sub (OY _ F) q,fun x hx=>by simp [owns] at hx⟩⟩
 | .nil,ids,r,ids',v,h,q=>by
  simp only [kB,Option.some.injEq,Prod.mk.injEq] at h
  obtain ⟨rfl,rfl⟩:=h
  exact ⟨⟨[],by simp⟩,id,id,fun F _=>⟨q,fun x hx=>by simp [owns] at hx⟩⟩
 | .un,ids,r,ids',v,h,q=>by
  simp only [kB,Option.some.injEq,Prod.mk.injEq] at h
  obtain ⟨rfl,rfl⟩:=h
  exact ⟨⟨[],by simp⟩,id,id,fun F _=>⟨trivial,fun x hx=>by simp [owns] at hx⟩⟩
 | .agg cs,ids,r,ids',v,h,q=>by
  simp only [kB] at h
  split at h
  ·rename_i l i hl
   simp only [Option.some.injEq,Prod.mk.injEq] at h
   obtain ⟨rfl,rfl⟩:=h
   obtain ⟨vs,hv,q⟩:=q
   obtain ⟨h1,h2,h2',h3⟩:=y_ hm mU cs ids l i _ hl q
   exact ⟨h1,h2,h2',fun F hF=>⟨⟨vs,hv,(h3 F hF).1⟩,(h3 F hF).2⟩⟩
  ·cases h
 | .bE cs,ids,r,ids',v,h,q=>by
  simp only [kB] at h
  split at h
  ·rename_i l i hl
   simp only [Option.some.injEq,Prod.mk.injEq] at h
   obtain ⟨rfl,rfl⟩:=h
   obtain ⟨vs,hv,q⟩:=q
   obtain ⟨h1,h2,h2',h3⟩:=y_ hm mU cs ids l i _ hl q
   exact ⟨h1,h2,h2',fun F hF=>⟨⟨vs,hv,(h3 F hF).1⟩,(h3 F hF).2⟩⟩
  ·cases h
 | .r (.ptr i g o),ids,r,ids',v,h,q=>by
  simp only [kB] at h
  split at h
  ·rename_i b hl
   split at h
   ·rename_i hi
    simp only [Option.some.injEq,Prod.mk.injEq] at h
    obtain ⟨rfl,rfl⟩:=h
    obtain ⟨hg,hb⟩:=hm.iz hl
    obtain ⟨q1,_,q3⟩:=q
    obtain ⟨b1,c1,h1,h2⟩:=q3 hg (by rw [hb];rfl)
    refine ⟨⟨[],by simp⟩,id,id,fun F _=>⟨⟨q1,Nat.le_refl _,fun _ _=>⟨b1,c1,?_,h2⟩⟩,fun x hx=>by simp [owns] at hx⟩⟩
    unfold xp;rw [if_pos hi];exact h1
   ·cases h
  ·simp only [Option.some.injEq,Prod.mk.injEq] at h
   obtain ⟨rfl,rfl⟩:=h
   exact ⟨⟨[],by simp⟩,id,id,fun F _=>⟨trivial,fun x hx=>by simp [owns] at hx⟩⟩
 | .r (.aJ i g l n),ids,r,ids',v,h,q=>by
  simp only [kB] at h
  split at h
  ·rename_i e k cs hl
   obtain ⟨hg,hb⟩:=hm.iz hl
   obtain ⟨q1,_,q2⟩:=q
   split at h
   ·rename_i hi
    simp only [Option.some.injEq,Prod.mk.injEq] at h
    obtain ⟨rfl,rfl⟩:=h
    refine ⟨⟨[],by simp⟩,id,id,fun F _=>⟨⟨q1,Nat.le_refl _,fun _ e' k' cs' hb'=>?_⟩,fun x hx=>by simp [owns] at hx⟩⟩
    obtain ⟨b',h1,h2⟩:=mU i _ hi hb
    simp only [H0] at hb'
    rw [h1] at hb';cases hb'
    have h2:bH.own e' k' cs'= .own e k cs:=h2
    cases h2
    have:=q2 hg _ _ _ hb
    unfold xp;rw [if_pos hi];exact this
   ·rename_i hi
    split at h
    ·rename_i hh
     simp only [Option.some.injEq,Prod.mk.injEq] at h
     obtain ⟨rfl,rfl⟩:=h
     obtain ⟨rfl,p_,aBx⟩:=hh
     obtain ⟨hk,hle,hp⟩:=q2 hg e k cs hb
     have hni:i∉ids:=fun hi=>by
      have:ids.any (Nat.beq i)=true:=List.any_eq_true.2 ⟨i,hi,by simp⟩
      rw [aBx] at this;cases this
     refine ⟨⟨[i],rfl⟩,fun hnd=>?_,fun hall j hj=>?_,fun F ⟨t,hF⟩=>?_⟩
     ·rw [List.nodup_append]
      exact ⟨hnd,by simp,fun a ha b hb=>by simp at hb;subst hb;exact fun e=>hni (e▸ha)⟩
     ·rcases List.mem_append.1 hj with hj | hj
      ·exact hall j hj
      ·simp at hj;subst hj;omega
     ·have hFi:F[ids.length]?=some i:=by rw [hF];simp
      have tV:oU φ F ids.length=φ i:=by unfold oU;rw [hFi]
      refine ⟨⟨hk,p_,?_⟩,fun x hx=>?_⟩
      ·rw [tV]
       cases en:φ i with
       | nil a=>
        rw [en] at hp
        obtain ⟨hv,_,rfl⟩:=hp
        exact ⟨hv,List.eq_nil_of_length_eq_zero (by rw [p_];simp)⟩
       | blk b c=>
        rw [en] at hp
        obtain ⟨a,c',hv,h1,h2,h3,h4,h5⟩:=hp
        rw [h4 rfl] at hv
        obtain rfl:c'=cp c:=by omega
        exact ⟨hv,h1⟩
      ·simp only [owns,List.mem_singleton] at hx
       subst hx
       exact ⟨i,hFi,hb⟩
    ·cases h
  ·simp only [Option.some.injEq,Prod.mk.injEq] at h
   obtain ⟨rfl,rfl⟩:=h
   exact ⟨⟨[],by simp⟩,id,id,fun F _=>⟨trivial,fun x hx=>by simp [owns] at hx⟩⟩
 | .r (.own ..),_,_,_,_,h,_=>by simp [kB] at h
 | .cD _,_,_,_,_,h,_=>by simp [kB] at h
 | .jo ..,_,_,_,_,h,_=>by simp [kB] at h
 | .fn ..,_,_,_,_,h,_=>by simp [kB] at h
theorem y_(hm:Mem E m aP w0 φ H w){bJ:List bH}(mU: ∀i b,i<m.length→(H i).b=some b→ ∃b',bJ[i]?=some b'∧BD b b'): ∀(ps:List PV) (ids:List Nat) (rs:List PV) (ids':List Nat) (vs:List Value),lz H m.length ps ids=some (rs,ids')→aY (cV E φ) w (bh φ H) ps vs→
  (∃t,ids'=ids++t)∧(ids.Nodup→ids'.Nodup)∧((∀i∈ids,m.length≤i)→ ∀i∈ids',m.length≤i)∧ ∀F,(∃t,F=ids'++t)→aY (Yo E (xp φ m.length) (oU φ F)) w (gI (xp φ m.length) bJ (oU φ F)) rs vs∧ ∀x∈eB rs,∃i,F[x.1]?=some i∧(H i).b=some x.2
 | [],ids,rs,ids',vs,h,q=>by
  simp only [lz,Option.some.injEq,Prod.mk.injEq] at h
  obtain ⟨rfl,rfl⟩:=h
  exact ⟨⟨[],by simp⟩,id,id,fun F _=>⟨q,fun x hx=>by simp [eB] at hx⟩⟩
 | p::ps,ids,rs,ids',vs,h,⟨v,r',e,q1,q2⟩=>by
  subst e
  simp only [lz] at h
  split at h
  ·rename_i x i hx
   split at h
   ·rename_i l j hl
    simp only [Option.some.injEq,Prod.mk.injEq] at h
    obtain ⟨rfl,rfl⟩:=h
    obtain ⟨⟨t1,rfl⟩,a2,VT,a3⟩:=MW hm mU p ids x i v hx q1
    obtain ⟨⟨t2,rfl⟩,b2,b2',b3⟩:=y_ hm mU ps (ids++t1) l j r' hl q2
    refine ⟨⟨t1++t2,by simp⟩,fun hn=>b2 (a2 hn),fun ha=>b2' (VT ha),fun F ⟨t,hF⟩=>?_⟩
    have c1:=a3 F ⟨t2++t,by rw [hF];simp⟩
    have c2:=b3 F ⟨t,hF⟩
    refine ⟨⟨v,r',rfl,c1.1,c2.1⟩,fun y hy=>?_⟩
    simp only [eB,List.mem_append] at hy
    rcases hy with hy | hy
    ·exact c1.2 y hy
    ·exact c2.2 y hy
   ·cases h
  ·cases h
end
theorem VU{M:Nat}{b b':bH}{ids ids':List Nat}(h:MV H M b ids=some (b',ids')):BD b b':=by
 cases b with
 | box cs=>
  simp only [MV] at h
  split at h
  ·simp only [Option.some.injEq,Prod.mk.injEq] at h;obtain ⟨rfl,_⟩:=h;trivial
  ·cases h
 | own e k cs=>simp only [MV,Option.some.injEq,Prod.mk.injEq] at h;obtain ⟨rfl,_⟩:=h;rfl
theorem II{M:Nat}: ∀{is ids:List Nat} {l:List bH} {ids':List Nat},vg H M is ids=some (l,ids')→l.length=is.length∧ ∀(p i:Nat),is[p]?=some i→ ∃b b',(H i).b=some b∧l[p]?=some b'∧BD b b'
 | [],ids,l,ids',h=>by
  simp only [vg,Option.some.injEq,Prod.mk.injEq] at h
  obtain ⟨rfl,rfl⟩:=h
  exact ⟨rfl,fun p i hp=>by simp at hp⟩
 | i::is,ids,l,ids',h=>by
  simp only [vg] at h
  split at h
  ·rename_i b hb
   split at h
   ·rename_i x j hx
    split at h
    ·rename_i l' k hl
     simp only [Option.some.injEq,Prod.mk.injEq] at h
     obtain ⟨rfl,rfl⟩:=h
     obtain ⟨h1,h2⟩:=II hl
     refine ⟨by simp [h1],fun p i' hp=>?_⟩
     cases p with
     | zero=>simp at hp;subst hp;exact ⟨b,x,hb,rfl,VU hx⟩
     | succ p=>simpa using h2 p i' (by simpa using hp)
    ·cases h
   ·cases h
  ·cases h
theorem IJ(hm:Mem E m aP w0 φ H w){bJ:List bH}(mU: ∀i b,i<m.length→(H i).b=some b→ ∃b',bJ[i]?=some b'∧BD b b'): ∀(is ids:List Nat) (l:List bH) (ids':List Nat),(∀i∈is,i<m.length)→vg H m.length is ids=some (l,ids')→
  (∃t,ids'=ids++t)∧(ids.Nodup→ids'.Nodup)∧((∀i∈ids,m.length≤i)→ ∀i∈ids',m.length≤i)∧ ∀F,(∃t,F=ids'++t)→(∀(p i:Nat) (b':bH),is[p]?=some i→l[p]?=some b'→uT (Yo E (xp φ m.length) (oU φ F)) w (gI (xp φ m.length) bJ (oU φ F)) (φ i) b')∧ ∀x∈l.flatMap wV,∃i,F[x.1]?=some i∧(H i).b=some x.2
 | [],ids,l,ids',_,h=>by
  simp only [vg,Option.some.injEq,Prod.mk.injEq] at h
  obtain ⟨rfl,rfl⟩:=h
  exact ⟨⟨[],by simp⟩,id,id,fun F _=>⟨fun p i b' hp=>by simp at hp,fun x hx=>by simp at hx⟩⟩
 | i::is,ids,l,ids',hlt,h=>by
  simp only [vg] at h
  split at h
  ·rename_i b hb
   split at h
   ·rename_i x j hx
    split at h
    ·rename_i l' k hl
     simp only [Option.some.injEq,Prod.mk.injEq] at h
     obtain ⟨rfl,rfl⟩:=h
     have dz:=hm.rep i b hb
     have one:(∃t,j=ids++t)∧(ids.Nodup→j.Nodup)∧((∀i∈ids,m.length≤i)→ ∀i∈j,m.length≤i)∧ ∀F,(∃t,F=j++t)→uT (Yo E (xp φ m.length) (oU φ F)) w (gI (xp φ m.length) bJ (oU φ F)) (φ i) x∧ ∀y∈wV x,∃i,F[y.1]?=some i∧(H i).b=some y.2:=by
      cases b with
      | own e k2 cs=>
       simp only [MV,Option.some.injEq,Prod.mk.injEq] at hx
       obtain ⟨rfl,rfl⟩:=hx
       refine ⟨⟨[],by simp⟩,id,id,fun F _=>⟨?_,fun y hy=>by simp [wV] at hy⟩⟩
       cases en:φ i with
       | nil a=>rw [en] at dz;exact dz
       | blk b1 c1=>
        rw [en] at dz
        obtain ⟨q0,cur,xs,r1,r2,r3,r4,r5,r6,r7⟩:=dz
        exact ⟨q0,cur,xs,r1,r2,r3,r4,r5,r6,aY.Bz (OY _ F) r7⟩
      | box cs=>
       simp only [MV] at hx
       split at hx
       ·rename_i l2 i2 hl2
        simp only [Option.some.injEq,Prod.mk.injEq] at hx
        obtain ⟨rfl,rfl⟩:=hx
        cases en:φ i with
        | nil a=>rw [en] at dz;exact dz.elim
        | blk b1 c1=>
         rw [en] at dz
         obtain ⟨vs,T,h1,h2⟩:=dz
         obtain ⟨a1,a2,VT,a3⟩:=y_ hm mU cs ids l2 i2 _ hl2 h2
         exact ⟨a1,a2,VT,fun F hF=>⟨⟨vs,T,h1,(a3 F hF).1⟩,(a3 F hF).2⟩⟩
       ·cases hx
     obtain ⟨⟨t1,rfl⟩,a2,VT,a3⟩:=one
     obtain ⟨⟨t2,rfl⟩,b2,b2',b3⟩:=IJ hm mU is (ids++t1) l' k (fun i hi=>hlt i (by simp [hi])) hl
     refine ⟨⟨t1++t2,by simp⟩,fun hn=>b2 (a2 hn),fun ha=>b2' (VT ha),fun F ⟨t,hF⟩=>?_⟩
     have c1:=a3 F ⟨t2++t,by rw [hF];simp⟩
     have c2:=b3 F ⟨t,hF⟩
     refine ⟨fun p i' b' hp hb'=>?_,fun y hy=>?_⟩
     ·cases p with
      | zero=>simp at hp hb';subst hp;subst hb';exact c1.1
      | succ p=>exact c2.1 p i' b' (by simpa using hp) (by simpa using hb')
     ·simp only [List.flatMap_cons,List.mem_append] at hy
      rcases hy with hy | hy
      ·exact c1.2 y hy
      ·exact c2.2 y hy
    ·cases h
   ·cases h
  ·cases h
theorem VV{b0 b b':bH}(h:wT b0 (some b))(k:BD b b'):wT b0 (some b'):=by
 cases b with
 | box=>cases b' with
  | box=>cases b0<;>first | trivial | exact h | exact h.elim
  | own=>exact k.elim
 | own=>have:b'=_:=k;subst this;exact h
def fH(P:Program)(N:Nat)(c:Code)(pc:aj):Prop:=
 ∀{γ:ek} {w0:World} {aP:Nat→cg} {E:Nat→Prop} {m:List bH},nS P γ w0 aP→ ∀(n:Nat) {st bl:St} {e:PX} {a:Act} {w:World} {Q:Exit→Act→World→Prop},
  prun γ n pc st=some (e,bl)→Rel E m aP w0 N st a w→(∀a' w',Rel E m aP w0 N bl a' w'→Q (ah3 e) a' w')→c.wp P Q a w
def wQ(P:Program)(br:List Nat)(f:Nat)(fc:aK):Prop:=
 ∃fn c,P.funcs[f]?=some fn∧fn.body=some c∧(fn.name== "runtime.NumGoroutine")=false∧fc.N=fn.ntmps∧fH P fn.ntmps c fc.body∧qU P fn.results.toList=some fc.res
theorem aF{P:Program}{br:List Nat}{f:Nat}{fc:aK}(hc:aW P br f=some (aO fc)):wQ P br f fc:=by
 unfold aW at hc
 split at hc
 ·rename_i fn hfn
  split at hc
  ·rename_i c EZ
   split at hc
   ·cases hc
   ·rename_i hname
    split at hc
    ·rename_i pc pr hpc hpr
     obtain ⟨fN,fB,fR,fF,fZ⟩:=fc
     simp only [aO,Option.some.injEq,aK.mk.injEq] at hc
     obtain ⟨rfl,rfl,rfl,-⟩:=hc
     exact ⟨fn,c,hfn,EZ,by simpa using hname,rfl,@fun γ w0 aP E m kL n st bl e a w Q he hr hQ=>R_ kL n hpc he hr hQ,hpr⟩
    ·cases hc
  ·cases hc
 ·cases hc
theorem qB{W:World}{Φ:Nat→cg}(kL:nS P γ W Φ){br:List Nat}{f n:Nat}{fc:aK}{args:List PV}{bs bJ:List bH}{r:PV}(hc:wQ P br f fc)(h:sV γ n fc args bs=some (r,bJ)):
  gB P f∧ ∀(E:Nat→Prop) (w:World) (aP:Nat→cg) (vs:List Value),gV W Φ w aP→(∀b,E b→b<w.heap.size)→Passed E w aP bs→aY E w (bh aP (H0 bs)) args vs→
   Calls P f vs.toArray w fun e w'=> ∃v dA β,e= .returned v∧Chg aP w w'∧OE E w w' aP bs r bJ v dA β:=by
 obtain ⟨fN,fB,fR,fF,fZ⟩:=fc
 obtain ⟨fn,c,hfn,EZ,hname,hN,hpc,hpr⟩:=hc
 have hN:fN=fn.ntmps:=hN
 have hpc:fH P fn.ntmps c fB:=hpc
 have hpr:qU P fn.results.toList=some fR:=hpr
 subst hN
 refine ⟨fun args w=>?_,fun E w aP vs avX hE tU hargs=>?_⟩
 ·simp only [callFunc,Sem.run_bind,run_program,Result.andThen_ok,hfn,EZ]
  have hname:(fn.name== "runtime.NumGoroutine")=false:=by simpa using hname
  simp [hname]
 ·unfold sV at h
  split at h
  ·rename_i hlen
   have hal:=hargs.len
   have hlen:args.length≤fn.ntmps:=hlen
   refine calls_of_wp hfn EZ ?_
   have hX: ∀b,cV E aP b→E b:=fun b hb=>by
    rcases hb with hb | ⟨i,c,hb⟩
    ·exact hb
    ·exact (tU.dom i b c hb).2
   have hch:Ch E (cV E aP) w w:=⟨Nat.le_refl _,fun b _ hb=>⟨rfl,fun hx=>hb (hX b hx)⟩⟩
   have hm0:Mem E bs aP w aP (H0 bs) w:=by
    refine ⟨fun i b hb=>?_,tU.inj,fun i b c hi=>?_,hE,tU.lt8,fun i b0 hi=>⟨?_,fun _=>rfl⟩,Nat.le_refl _,rfl,rfl,rfl,fun _ _ _=>rfl⟩
    ·have q:=tU.rep i b hb
     generalize aP i=pi at*
     cases pi with
     | nil a=>cases b<;>exact q
     | blk k c=>
      cases b with
      | box cs=>obtain ⟨Im,T,h1,h2⟩:=q;exact ⟨Im,T,h1,aY.keep hch (fun _ _ h=>h) _ _ h2⟩
      | own e kk cs=>
       obtain ⟨q0,cur,xs,r1,r2,r3,r4,r5,r6,r7⟩:=q
       exact ⟨q0,cur,xs,r1,r2,r3,r4,r5,r6,aY.keep hch (fun _ _ h=>h) _ _ r7⟩
    ·obtain ⟨h1,h2⟩:=tU.dom i b c hi
     exact ⟨hE b h2,.inr ⟨h1,c,hi⟩⟩
    ·simp only [H0,hi]
     cases b0<;>first | trivial | exact ⟨rfl,rfl⟩
   have hrel:Rel E bs aP w fn.ntmps (qV args bs) {tmps:=vs.toArray++Array.replicate (fn.ntmps-vs.toArray.size) undef,defers:= []} w:=by
    refine ⟨⟨aP,hm0,fun t=>?_⟩,rfl,by simp;omega⟩
    simp only [qV,List.getD_eq_getElem?_getD]
    by_cases ht:t<args.length
    ·obtain ⟨v,hv,q⟩:=hargs.get t args[t] (by simp [ht])
     rw [List.getElem?_eq_getElem ht]
     have wO:Act.eval {tmps:=vs.toArray++Array.replicate (fn.ntmps-vs.toArray.size) undef,defers:= []} (.tmp t)=v:=by
      simp only [Act.eval,Array.getD_eq_getD_getElem?]
      rw [Array.getElem?_append_left (by simp;omega)]
      simp [hv]
     rw [wO]
     exact cJ.keep hch (fun _ _ h=>h) _ _ q
    ·rw [List.getElem?_eq_none (by omega)];trivial
   have fin: ∀{fx:Bool} {st:St} {a':Act} {w':World},xk fx st bs.length fR=some (r,bJ)→Rel E bs aP w fn.ntmps st a' w'→a'.defers= []∧ ∃v,(results fn a'.tmps).run P w'= .ok v w'∧ ∃v' dA β,Ending.returned v= .returned v'∧Chg aP w w'∧OE E w w' aP bs r bJ v' dA β:=by
    intro fx st a' w' OZ ⟨⟨φ,hm,hs⟩,hd,_⟩
    obtain ⟨VW,ho,Zj,aBz⟩: ∃VW,cP st bs.length fR=some (r,VW)∧bJ=VW++(if fx=true then [.box []] else [])∧(fx=true→ID st.h bs.length=true):=by
     cases fx with
     | false=>exact ⟨bJ,OZ,by simp,fun h=>by cases h⟩
     | true=>
      simp only [xk] at OZ
      split at OZ
      ·rename_i r1 VW h1
       split at OZ
       ·rename_i hg
        simp only [Option.some.injEq,Prod.mk.injEq] at OZ
        obtain ⟨rfl,rfl⟩:=OZ
        exact ⟨VW,h1,by simp,fun _=>hg⟩
       ·cases OZ
      ·cases OZ
    have axE:cA r bJ=cA r VW:=by
     subst Zj
     unfold cA
     rw [List.flatMap_append]
     cases fx<;>simp [wV,eB]
    clear OZ
    refine ⟨hd,?_⟩
    have hb:Chg aP w w':=⟨hm.os,hm.tape,hm.out,hm.sz,fun k hk hne=>hm.fr k hk (fun i c _=>hne i c)⟩
    unfold cP at ho
    split at ho
    ·rename_i bs2 ids avY
     split at ho
     ·rename_i l hl
      split at ho
      ·rename_i x FM hx
       simp only [Option.some.injEq,Prod.mk.injEq] at ho
       obtain ⟨rfl,rfl⟩:=ho
       obtain ⟨g1,g2⟩:=II avY
       have hat: ∀i,i<bs.length→bJ[i]?=bs2[i]?:=fun i hi=>by
        rw [Zj,List.getElem?_append_left (by rw [g1];simpa using hi)]
       have mU: ∀i b,i<bs.length→(st.h i).b=some b→ ∃b',bJ[i]?=some b'∧BD b b':=fun i b hi hb=>by
        obtain ⟨b1,b',h1,h2,h3⟩:=g2 i i (by simp [hi])
        rw [hb] at h1;cases h1
        exact ⟨b',by rw [hat i hi];exact h2,h3⟩
       obtain ⟨Im,h1,h2⟩:=IG hm hs hpr hl
       have hres: ∃v,(results fn a'.tmps).run P w'= .ok v w'∧cJ (cV E φ) w' (bh φ st.h) (Zi l) v:=by
        have e:results fn a'.tmps=(do let vs←fn.results.mapM (OX a'.tmps);pure (if h:vs.size=1 then vs[0] else .tuple vs)):=rfl
        have hrun:(results fn a'.tmps).run P w'= .ok (if h:Im.toArray.size=1 then Im.toArray[0] else .tuple Im.toArray) w':=by
         rw [e,Sem.run_bind,Array.mapM_eq_mapM_toList]
         simp only [Sem.run_map,h1,Result.andThen_ok,Sem.run_pure]
        refine ⟨_,hrun,?_⟩
        have GN:=h2.len
        match l,Im,h2,GN with
        | [p],[v],h2,_=>
         obtain ⟨v',rr,e,h3,_⟩:=h2
         cases e
         exact h3
        | [],[],h2,_=>exact ⟨#[],rfl,h2⟩
        | p::q::r,v::u::t,h2,_=>
         have Sa: ¬((v::u::t).toArray.size=1):=by simp
         rw [dif_neg Sa]
         exact ⟨_,rfl,h2⟩
        | [_],[],_,GN=>simp at GN
        | [_],_::_::_,_,GN=>simp at GN
        | [],_::_,_,GN=>simp at GN
        | _::_::_,[],_,GN=>simp at GN
        | _::_::_,[_],_,GN=>simp at GN
       obtain ⟨v,hrun,hv⟩:=hres
       obtain ⟨⟨t1,Sb⟩,a2,VT,a3⟩:=IJ hm mU (List.range bs.length) [] bs2 ids (fun i hi=>List.mem_range.1 hi) avY
       obtain ⟨⟨t2,ht2⟩,c2,c2',c3⟩:=MW hm mU (Zi l) ids _ FM v hx hv
       have hnd:=c2 (a2 List.nodup_nil)
       have GK:=c2' (VT (by simp))
       obtain ⟨e1,e2⟩:=a3 FM ⟨t2,ht2⟩
       obtain ⟨e3,e4⟩:=c3 FM ⟨[],by simp⟩
       refine ⟨v,hrun,v,xp φ bs.length,oU φ FM,rfl,hb,?_⟩
       have βb: ∀j b c,oU φ FM j= .blk b c→ ∃i,FM[j]?=some i∧φ i= .blk b c:=by
        intro j b c hj
        unfold oU at hj
        split at hj
        ·rename_i i hi;exact ⟨i,hi,hj⟩
        ·cases hj
       have φb: ∀i b c,xp φ bs.length i= .blk b c→i<bs.length∧φ i= .blk b c:=by
        intro i b c hi
        unfold xp at hi
        split at hi
        ·exact ⟨‹_›,hi⟩
        ·cases hi
       have ah5:bs2.length=bs.length:=by rw [g1];simp
       have ap7:bJ.length=bs.length∨bJ.length=bs.length+1:=by
        rw [Zj,List.length_append,ah5];cases fx<;>simp
       have w8:bJ.length=bs.length+1→fx=true:=fun h=>by
        rw [Zj,List.length_append,ah5] at h
        cases fx with
        | true=>rfl
        | false=>simp at h
       refine ⟨e3,fun i b kY hi=>?_,fun x hx=>?_,ap7,fun i b hi=>?_,fun i b c hi=>?_,fun i j b c c' hi hj=>?_,fun i j b c c' hi hj=>?_,fun i j b c c' hi hj=>?_,fun j b c hj=>?_⟩
       ·rw [hat i kY] at hi
        have:=e1 i i b (by simp [kY]) hi
        unfold xp;rw [if_pos kY];exact this
       ·rw [axE] at hx
        have hxx: ∃i,FM[x.1]?=some i∧(st.h i).b=some x.2:=by
         rcases List.mem_append.1 hx with hx | hx
         ·exact e4 x hx
         ·exact e2 x hx
        have hyo: ∃e k cs,x.2= .own e k cs:=by
         rcases List.mem_append.1 hx with h | h
         ·exact y8 _ x h
         ·obtain ⟨bb,Vm,h⟩:=List.mem_flatMap.1 h
          cases bb with
          | box cs=>exact nU cs x h
          | own=>simp [wV] at h
        obtain ⟨i,hi,OM⟩:=hxx
        have tV:oU φ FM x.1=φ i:=by unfold oU;rw [hi]
        have q:=hm.rep i _ OM
        obtain ⟨e,k,cs,hown⟩:=hyo
        rw [tV]
        rw [hown] at q ⊢
        cases en:φ i with
        | nil a=>rw [en] at q;exact q
        | blk b1 c1=>
         rw [en] at q
         obtain ⟨q0,cur,xs,r1,r2,r3,r4,r5,r6,r7⟩:=q
         exact ⟨q0,cur,xs,r1,r2,r3,r4,r5,r6,aY.Bz (OY _ _) r7⟩
       ·have kY:=(List.getElem?_eq_some_iff.1 hi).1
        obtain ⟨p1,p2⟩:=hm.pass i b hi
        obtain ⟨b1,b',h1,h2,h3⟩:=g2 i i (by simp [kY])
        rw [h1] at p1
        rw [hat i kY,h2]
        refine ⟨VV p1 h3,fun VR=>?_⟩
        unfold xp;rw [if_pos kY]
        refine p2 (VR.imp id fun hl=>?_)
        have hg:=aBz (w8 hl)
        unfold ID at hg
        exact Nat.eq_of_beq_eq_true (List.all_eq_true.1 hg i (List.mem_range.2 kY))
       ·obtain ⟨kY,h1⟩:=φb i b c hi
        have:=hm.lt i b c h1
        exact ⟨kY,this.1,this.2.imp id fun h=>h.2⟩
       ·exact hm.inj i j b c c' (φb i b c hi).2 (φb j b c' hj).2
       ·obtain ⟨a,ha,h1⟩:=βb i b c hi
        obtain ⟨a',ha',h2⟩:=βb j b c' hj
        have:=hm.inj a a' b c c' h1 h2
        subst this
        exact (List.getElem?_inj (List.getElem?_eq_some_iff.1 ha).1 hnd).1 (ha.trans ha'.symm)
       ·obtain ⟨kY,h1⟩:=φb i b c hi
        obtain ⟨a,ha,h2⟩:=βb j b c' hj
        have:=hm.inj i a b c c' h1 h2
        subst this
        have:=GK i (List.mem_of_getElem? ha)
        omega
       ·obtain ⟨i,hi,h1⟩:=βb j b c hj
        have:=hm.lt i b c h1
        refine ⟨?_,this.1⟩
        rcases this.2 with h | ⟨h,_⟩
        ·exact h
        ·have:=GK i (List.mem_of_getElem? hi);omega
      ·cases ho
     ·cases ho
    ·cases ho
   split at h
   ·rename_i st hst
    exact hpc (kL.at avX) n hst hrel fun a' w' kn=>fin h (R9 fF kn)
   ·rename_i st hst
    exact hpc (kL.at avX) n hst hrel fun a' w' kn=>fin h (R9 fF kn)
   ·cases h
  ·cases h
theorem CU{W:World}{Φ:Nat→cg}{br:List Nat}{av:Nat→Option aK}{base:ek}(hb:nS P base W Φ)(hc: ∀f fc,av f=some fc→wQ P br f fc): ∀n,nS P (bW av base n) W Φ
 | 0=>hb
 | n+1=>by
  intro f args bs r bJ h
  simp only [bW] at h
  split at h
  ·rename_i fc VX
   unfold OW at h
   split at h
   ·split at h
    ·rename_i m cs ar
     split at h
     ·rename_i r' kn
      split at h
      ·rename_i hor
       cases h
       obtain ⟨k,hk⟩:=xm kn
       have s1:=qB (CU hb hc n) (hc f fc VX) hk
       refine ⟨s1.1,fun E w aP vs hL hE hp hr=>?_⟩
       obtain ⟨v,rest,rfl,hv,BF⟩:=hr
       have hv:dR E w (.sl m cs) v:=hv
       obtain ⟨a,c,e1,h1,h2,h3,h4⟩:=hv
       cases a with
       | some ad=>exact s1.2 E w aP _ hL hE hp ⟨v,rest,rfl,⟨⟨some ad,c,e1,h1,h2,h3,h4⟩,some ad,c,e1,rfl⟩,BF⟩
       | none=>
        have hm:m=0:=by have:=h3 rfl;omega
        rcases hor with hor | hor
        ·exact absurd hm hor
        ·obtain ⟨k2,hk2⟩:=xm hor
         have s2:=qB (CU hb hc n) (hc f fc VX) hk2
         subst hm
         exact s2.2 E w aP _ hL hE hp ⟨v,rest,rfl,⟨⟨none,c,e1,h1,h2,h3,.inl rfl⟩,none,c,e1,rfl⟩,BF⟩
      ·cases h
     ·cases h
    ·cases h
   ·obtain ⟨k,hk⟩:=xm h
    exact qB (CU hb hc n) (hc f fc VX) hk
  ·exact hb f args bs r bJ h
theorem VY{br:List Nat}{av:Nat→Option aK}{base:ek}(hb:nS P base w fun _=> .nil none)(hc: ∀f fc,av f=some fc→wQ P br f fc){n f:Nat}{args:List PV}{r:PV}(h:bW av base n f args []=some (r,[])){vs:List Value}(hargs:aY (fun _=>False) w (fun _ _=>False) args vs):
  Calls P f vs.toArray w fun e w'=> ∃v dA β,e= .returned v∧Below w.heap.size w w'∧OE (fun _=>False) w w' (fun _=> .nil none) [] r [] v dA β:=by
 have tU:Passed (fun _=>False) w (fun _=> .nil none) []:=⟨by simp,(fun i b c h=>by cases h),(fun i j b c c' h=>by cases h),(fun i b h=>by simp at h)⟩
 refine ((CU hb hc n f args [] r [] h).2 _ w (fun _=> .nil none) vs .refl (fun _ h=>h.elim) tU (aY.keep (Ch.refl _ _) (fun _ _ h=>h.elim) _ _ hargs)).mono ?_
 rintro e w' ⟨v,dA,β,rfl,hb,ho⟩
 exact ⟨v,dA,β,rfl,⟨hb.os,hb.tape,hb.out,hb.size,fun k hk=>hb.blk k hk (fun i c h=>by cases h)⟩,ho⟩
end
end Go.Proofs.YtimbfadnabfabaaGreatDoor.Pm
