/- The small machine: whatever it tells of a function's call is so. No program is named here. -/
import Derived.Test.YtobkkblijfhpoaaGreatDoorPf
namespace Go.Proofs.YtobkkblijfhpoaaGreatDoor.Pm
open Go.RowKit

section
variable {P : Program} {E : Nat → Prop} {m : List cj} {aS φ : Nat → cJ} {H : Nat → cL} {w0 w : World} {γ : cX}
def oK(φ:Nat→cJ)(F:List Nat)(j:Nat):cJ:=match F[j]? with | some i=>φ i | none=> .nil none
def yx(φ:Nat→cJ)(M:Nat)(i:Nat):cJ:=if i<M then φ i else .nil none
theorem Qw(M:Nat)(F:List Nat): ∀b,b<w.heap.size→ ¬dr E φ b→ ¬Yo E (yx φ M) (oK φ F) b:=by
 intro b _ hx hy
 rcases hy with h | ⟨i,c,h⟩ | ⟨j,c,h⟩
 ·exact hx (.inl h)
 ·unfold yx at h
  split at h
  ·exact hx (.inr ⟨i,c,h⟩)
  ·cases h
 ·unfold oK at h
  split at h
  ·rename_i i _;exact hx (.inr ⟨i,c,h⟩)
  ·cases h
def CN:cj→cj→Prop
 | .box _,.box _=>True
 | .own e k cs,b=>b= .own e k cs
 | _,_=>False
mutual
theorem OL(hm:Mem E m aS w0 φ H w){b_:List cj}(nc: ∀i b,i<m.length→(H i).b=some b→ ∃b',b_[i]?=some b'∧CN b b'): ∀(p:PV) (ids:List Nat) (r:PV) (ids':List Nat) (v:Value),kg H m.length p ids=some (r,ids')→cT (dr E φ) w (bu φ H) p v→
  (∃t,ids'=ids++t)∧(ids.Nodup→ids'.Nodup)∧((∀i∈ids,m.length≤i)→ ∀i∈ids',m.length≤i)∧ ∀F,(∃t,F=ids'++t)→cT (Yo E (yx φ m.length) (oK φ F)) w (gu (yx φ m.length) b_ (oK φ F)) r v∧ ∀x∈owns r,∃i,F[x.1]?=some i∧(H i).b=some x.2
 | .d x,ids,r,ids',v,h,q=>by
  simp only [kg,Option.some.injEq,Prod.mk.injEq] at h
  obtain ⟨rfl,rfl⟩:=h
  exact ⟨⟨[],by simp⟩,id,id,fun F _=>⟨dQ.sub (Qw _ F) q,fun x hx=>by simp [owns] at hx⟩⟩
 | .nil,ids,r,ids',v,h,q=>by
  simp only [kg,Option.some.injEq,Prod.mk.injEq] at h
  obtain ⟨rfl,rfl⟩:=h
  exact ⟨⟨[],by simp⟩,id,id,fun F _=>⟨q,fun x hx=>by simp [owns] at hx⟩⟩
 | .un,ids,r,ids',v,h,q=>by
  simp only [kg,Option.some.injEq,Prod.mk.injEq] at h
  obtain ⟨rfl,rfl⟩:=h
  exact ⟨⟨[],by simp⟩,id,id,fun F _=>⟨trivial,fun x hx=>by simp [owns] at hx⟩⟩
 | .agg cs,ids,r,ids',v,h,q=>by
  simp only [kg] at h
  split at h
  ·rename_i l i hl
   simp only [Option.some.injEq,Prod.mk.injEq] at h
   obtain ⟨rfl,rfl⟩:=h
   obtain ⟨vs,hv,q⟩:=q
   obtain ⟨h1,h2,h2',h3⟩:=Aw hm nc cs ids l i _ hl q
   exact ⟨h1,h2,h2',fun F hF=>⟨⟨vs,hv,(h3 F hF).1⟩,(h3 F hF).2⟩⟩
  ·cases h
 | .bZ cs,ids,r,ids',v,h,q=>by
  simp only [kg] at h
  split at h
  ·rename_i l i hl
   simp only [Option.some.injEq,Prod.mk.injEq] at h
   obtain ⟨rfl,rfl⟩:=h
   obtain ⟨vs,hv,q⟩:=q
   obtain ⟨h1,h2,h2',h3⟩:=Aw hm nc cs ids l i _ hl q
   exact ⟨h1,h2,h2',fun F hF=>⟨⟨vs,hv,(h3 F hF).1⟩,(h3 F hF).2⟩⟩
  ·cases h
 | .r (.ptr i g o),ids,r,ids',v,h,q=>by
  simp only [kg] at h
  split at h
  ·rename_i b hl
   split at h
   ·rename_i hi
    simp only [Option.some.injEq,Prod.mk.injEq] at h
    obtain ⟨rfl,rfl⟩:=h
    obtain ⟨hg,hb⟩:=hm.gR hl
    obtain ⟨q1,_,q3⟩:=q
    obtain ⟨b1,c1,h1,h2⟩:=q3 hg (by rw [hb];rfl)
    refine ⟨⟨[],by simp⟩,id,id,fun F _=>⟨⟨q1,Nat.le_refl _,fun _ _=>⟨b1,c1,?_,h2⟩⟩,fun x hx=>by simp [owns] at hx⟩⟩
    unfold yx;rw [if_pos hi];exact h1
   ·cases h
  ·simp only [Option.some.injEq,Prod.mk.injEq] at h
   obtain ⟨rfl,rfl⟩:=h
   exact ⟨⟨[],by simp⟩,id,id,fun F _=>⟨trivial,fun x hx=>by simp [owns] at hx⟩⟩
 | .r (.aI i g l n),ids,r,ids',v,h,q=>by
  simp only [kg] at h
  split at h
  ·rename_i e k cs hl
   obtain ⟨hg,hb⟩:=hm.gR hl
   obtain ⟨q1,_,q2⟩:=q
   split at h
   ·rename_i hi
    simp only [Option.some.injEq,Prod.mk.injEq] at h
    obtain ⟨rfl,rfl⟩:=h
    refine ⟨⟨[],by simp⟩,id,id,fun F _=>⟨⟨q1,Nat.le_refl _,fun _ e' k' cs' hb'=>?_⟩,fun x hx=>by simp [owns] at hx⟩⟩
    obtain ⟨b',h1,h2⟩:=nc i _ hi hb
    simp only [H0] at hb'
    rw [h1] at hb';cases hb'
    have h2:cj.own e' k' cs'= .own e k cs:=h2
    cases h2
    have:=q2 hg _ _ _ hb
    unfold yx;rw [if_pos hi];exact this
   ·rename_i hi
    split at h
    ·rename_i hh
     simp only [Option.some.injEq,Prod.mk.injEq] at h
     obtain ⟨rfl,rfl⟩:=h
     obtain ⟨rfl,pT,az_⟩:=hh
     obtain ⟨hk,hle,hp⟩:=q2 hg e k cs hb
     have hni:i∉ids:=fun hi=>by
      have:ids.any (Nat.beq i)=true:=List.any_eq_true.2 ⟨i,hi,by simp⟩
      rw [az_] at this;cases this
     refine ⟨⟨[i],rfl⟩,fun hnd=>?_,fun hall j hj=>?_,fun F ⟨t,hF⟩=>?_⟩
     ·rw [List.nodup_append]
      exact ⟨hnd,by simp,fun a ha b hb=>by simp at hb;subst hb;exact fun e=>hni (e▸ha)⟩
     ·rcases List.mem_append.1 hj with hj | hj
      ·exact hall j hj
      ·simp at hj;subst hj;omega
     ·have hFi:F[ids.length]?=some i:=by rw [hF];simp
      have pV:oK φ F ids.length=φ i:=by unfold oK;rw [hFi]
      refine ⟨⟨hk,pT,?_⟩,fun x hx=>?_⟩
      ·rw [pV]
       cases ey:φ i with
       | nil a=>
        rw [ey] at hp
        obtain ⟨hv,_,rfl⟩:=hp
        exact ⟨hv,List.eq_nil_of_length_eq_zero (by rw [pT];simp)⟩
       | blk b c=>
        rw [ey] at hp
        obtain ⟨a,c',hv,h1,h2,h3,h4,h5⟩:=hp
        rw [h4 rfl] at hv
        obtain rfl:c'=cp c:=by omega
        exact ⟨hv,h1⟩
      ·simp only [owns,List.mem_singleton] at hx
       subst hx
       exact ⟨i,hFi,hb⟩
    ·cases h
  ·simp only [Option.some.injEq,Prod.mk.injEq] at h
   obtain ⟨rfl,rfl⟩:=h
   exact ⟨⟨[],by simp⟩,id,id,fun F _=>⟨trivial,fun x hx=>by simp [owns] at hx⟩⟩
 | .r (.own ..),_,_,_,_,h,_=>by simp [kg] at h
 | .cS _,_,_,_,_,h,_=>by simp [kg] at h
 | .iG ..,_,_,_,_,h,_=>by simp [kg] at h
 | .fn ..,_,_,_,_,h,_=>by simp [kg] at h
theorem Aw(hm:Mem E m aS w0 φ H w){b_:List cj}(nc: ∀i b,i<m.length→(H i).b=some b→ ∃b',b_[i]?=some b'∧CN b b'): ∀(ps:List PV) (ids:List Nat) (rs:List PV) (ids':List Nat) (vs:List Value),lM H m.length ps ids=some (rs,ids')→aZ (dr E φ) w (bu φ H) ps vs→
  (∃t,ids'=ids++t)∧(ids.Nodup→ids'.Nodup)∧((∀i∈ids,m.length≤i)→ ∀i∈ids',m.length≤i)∧ ∀F,(∃t,F=ids'++t)→aZ (Yo E (yx φ m.length) (oK φ F)) w (gu (yx φ m.length) b_ (oK φ F)) rs vs∧ ∀x∈eD rs,∃i,F[x.1]?=some i∧(H i).b=some x.2
 | [],ids,rs,ids',vs,h,q=>by
  simp only [lM,Option.some.injEq,Prod.mk.injEq] at h
  obtain ⟨rfl,rfl⟩:=h
  exact ⟨⟨[],by simp⟩,id,id,fun F _=>⟨q,fun x hx=>by simp [eD] at hx⟩⟩
 | p::ps,ids,rs,ids',vs,h,⟨v,r',e,q1,q2⟩=>by
  subst e
  simp only [lM] at h
  split at h
  ·rename_i x i hx
   split at h
   ·rename_i l j hl
    simp only [Option.some.injEq,Prod.mk.injEq] at h
    obtain ⟨rfl,rfl⟩:=h
    obtain ⟨⟨t1,rfl⟩,a2,Xy,a3⟩:=OL hm nc p ids x i v hx q1
    obtain ⟨⟨t2,rfl⟩,b2,b2',b3⟩:=Aw hm nc ps (ids++t1) l j r' hl q2
    refine ⟨⟨t1++t2,by simp⟩,fun hn=>b2 (a2 hn),fun ha=>b2' (Xy ha),fun F ⟨t,hF⟩=>?_⟩
    have c1:=a3 F ⟨t2++t,by rw [hF];simp⟩
    have c2:=b3 F ⟨t,hF⟩
    refine ⟨⟨v,r',rfl,c1.1,c2.1⟩,fun y hy=>?_⟩
    simp only [eD,List.mem_append] at hy
    rcases hy with hy | hy
    ·exact c1.2 y hy
    ·exact c2.2 y hy
   ·cases h
  ·cases h
end
theorem Xz{M:Nat}{b b':cj}{ids ids':List Nat}(h:OJ H M b ids=some (b',ids')):CN b b':=by
 cases b with
 | box cs=>
  simp only [OJ] at h
  split at h
  ·simp only [Option.some.injEq,Prod.mk.injEq] at h;obtain ⟨rfl,_⟩:=h;trivial
  ·cases h
 | own e k cs=>simp only [OJ,Option.some.injEq,Prod.mk.injEq] at h;obtain ⟨rfl,_⟩:=h;rfl
theorem Kt{M:Nat}: ∀{is ids:List Nat} {l:List cj} {ids':List Nat},vU H M is ids=some (l,ids')→l.length=is.length∧ ∀(p i:Nat),is[p]?=some i→ ∃b b',(H i).b=some b∧l[p]?=some b'∧CN b b'
 | [],ids,l,ids',h=>by
  simp only [vU,Option.some.injEq,Prod.mk.injEq] at h
  obtain ⟨rfl,rfl⟩:=h
  exact ⟨rfl,fun p i hp=>by simp at hp⟩
 | i::is,ids,l,ids',h=>by
  simp only [vU] at h
  split at h
  ·rename_i b hb
   split at h
   ·rename_i x j hx
    split at h
    ·rename_i l' k hl
     simp only [Option.some.injEq,Prod.mk.injEq] at h
     obtain ⟨rfl,rfl⟩:=h
     obtain ⟨h1,h2⟩:=Kt hl
     refine ⟨by simp [h1],fun p i' hp=>?_⟩
     cases p with
     | zero=>simp at hp;subst hp;exact ⟨b,x,hb,rfl,Xz hx⟩
     | succ p=>simpa using h2 p i' (by simpa using hp)
    ·cases h
   ·cases h
  ·cases h
theorem Ku(hm:Mem E m aS w0 φ H w){b_:List cj}(nc: ∀i b,i<m.length→(H i).b=some b→ ∃b',b_[i]?=some b'∧CN b b'): ∀(is ids:List Nat) (l:List cj) (ids':List Nat),(∀i∈is,i<m.length)→vU H m.length is ids=some (l,ids')→
  (∃t,ids'=ids++t)∧(ids.Nodup→ids'.Nodup)∧((∀i∈ids,m.length≤i)→ ∀i∈ids',m.length≤i)∧ ∀F,(∃t,F=ids'++t)→(∀(p i:Nat) (b':cj),is[p]?=some i→l[p]?=some b'→vI (Yo E (yx φ m.length) (oK φ F)) w (gu (yx φ m.length) b_ (oK φ F)) (φ i) b')∧ ∀x∈l.flatMap x6,∃i,F[x.1]?=some i∧(H i).b=some x.2
 | [],ids,l,ids',_,h=>by
  simp only [vU,Option.some.injEq,Prod.mk.injEq] at h
  obtain ⟨rfl,rfl⟩:=h
  exact ⟨⟨[],by simp⟩,id,id,fun F _=>⟨fun p i b' hp=>by simp at hp,fun x hx=>by simp at hx⟩⟩
 | i::is,ids,l,ids',hlt,h=>by
  simp only [vU] at h
  split at h
  ·rename_i b hb
   split at h
   ·rename_i x j hx
    split at h
    ·rename_i l' k hl
     simp only [Option.some.injEq,Prod.mk.injEq] at h
     obtain ⟨rfl,rfl⟩:=h
     have dG:=hm.rep i b hb
     have one:(∃t,j=ids++t)∧(ids.Nodup→j.Nodup)∧((∀i∈ids,m.length≤i)→ ∀i∈j,m.length≤i)∧ ∀F,(∃t,F=j++t)→vI (Yo E (yx φ m.length) (oK φ F)) w (gu (yx φ m.length) b_ (oK φ F)) (φ i) x∧ ∀y∈x6 x,∃i,F[y.1]?=some i∧(H i).b=some y.2:=by
      cases b with
      | own e k2 cs=>
       simp only [OJ,Option.some.injEq,Prod.mk.injEq] at hx
       obtain ⟨rfl,rfl⟩:=hx
       refine ⟨⟨[],by simp⟩,id,id,fun F _=>⟨?_,fun y hy=>by simp [x6] at hy⟩⟩
       cases ey:φ i with
       | nil a=>rw [ey] at dG;exact dG
       | blk b1 c1=>
        rw [ey] at dG
        obtain ⟨q0,cur,xs,r1,r2,r3,r4,r5,r6,r7⟩:=dG
        exact ⟨q0,cur,xs,r1,r2,r3,r4,r5,r6,aZ.CG (Qw _ F) r7⟩
      | box cs=>
       simp only [OJ] at hx
       split at hx
       ·rename_i l2 i2 hl2
        simp only [Option.some.injEq,Prod.mk.injEq] at hx
        obtain ⟨rfl,rfl⟩:=hx
        cases ey:φ i with
        | nil a=>rw [ey] at dG;exact dG.elim
        | blk b1 c1=>
         rw [ey] at dG
         obtain ⟨vs,T,h1,h2⟩:=dG
         obtain ⟨a1,a2,Xy,a3⟩:=Aw hm nc cs ids l2 i2 _ hl2 h2
         exact ⟨a1,a2,Xy,fun F hF=>⟨⟨vs,T,h1,(a3 F hF).1⟩,(a3 F hF).2⟩⟩
       ·cases hx
     obtain ⟨⟨t1,rfl⟩,a2,Xy,a3⟩:=one
     obtain ⟨⟨t2,rfl⟩,b2,b2',b3⟩:=Ku hm nc is (ids++t1) l' k (fun i hi=>hlt i (by simp [hi])) hl
     refine ⟨⟨t1++t2,by simp⟩,fun hn=>b2 (a2 hn),fun ha=>b2' (Xy ha),fun F ⟨t,hF⟩=>?_⟩
     have c1:=a3 F ⟨t2++t,by rw [hF];simp⟩
     have c2:=b3 F ⟨t,hF⟩
     refine ⟨fun p i' b' hp hb'=>?_,fun y hy=>?_⟩
     ·cases p with
      | zero=>simp at hp hb';subst hp;subst hb';exact c1.1
      | succ p=>exact c2.1 p i' b' (by simpa using hp) (by simpa using hb')
     ·simp only [List.flatMap_cons,List.mem_append] at hy
      rcases hy with hy | hy
      ·exact c1.2 y hy
      ·exact c2.2 y hy
    ·cases h
   ·cases h
  ·cases h
theorem XA{b0 b b':cj}(h:Bd b0 (some b))(k:CN b b'):Bd b0 (some b'):=by
 cases b with
 | box=>cases b' with
  | box=>cases b0<;>first | trivial | exact h | exact h.elim
  | own=>exact k.elim
 | own=>have:b'=_:=k;subst this;exact h
def dO(P:Program)(N:Nat)(c:Code)(pc:aj):Prop:=
 ∀{γ:cX} {w0:World} {aS:Nat→cJ} {E:Nat→Prop} {m:List cj},nI P γ w0 aS→ ∀(n:Nat) {st bX:St} {e:PX} {a:Act} {w:World} {Q:Exit→Act→World→Prop},
  prun γ n pc st=some (e,bX)→Rel E m aS w0 N st a w→(∀a' w',Rel E m aS w0 N bX a' w'→Q (aj5 e) a' w')→c.wp P Q a w
def uw(P:Program)(br:List Nat)(f:Nat)(fc:aO):Prop:=
 ∃fn c,P.funcs[f]?=some fn∧fn.body=some c∧(fn.name== "runtime.NumGoroutine")=false∧fc.N=fn.ntmps∧dO P fn.ntmps c fc.body∧qE P fn.results.toList=some fc.res
theorem aK{P:Program}{br:List Nat}{f:Nat}{fc:aO}(hc:bz P br f=some (aU fc)):uw P br f fc:=by
 unfold bz at hc
 split at hc
 ·rename_i fn hfn
  split at hc
  ·rename_i c yy
   split at hc
   ·cases hc
   ·rename_i hname
    split at hc
    ·rename_i pc pr hpc hpr
     obtain ⟨fN,fB,fR,fF,fZ⟩:=fc
     simp only [aU,Option.some.injEq,aO.mk.injEq] at hc
     obtain ⟨rfl,rfl,rfl,-⟩:=hc
     exact ⟨fn,c,hfn,yy,by simpa using hname,rfl,@fun γ w0 aS E m kV n st bX e a w Q he hr hQ=>Tm kV n hpc he hr hQ,hpr⟩
    ·cases hc
  ·cases hc
 ·cases hc
theorem qh{W:World}{Φ:Nat→cJ}(kV:nI P γ W Φ){br:List Nat}{f n:Nat}{fc:aO}{args:List PV}{bs b_:List cj}{r:PV}(hc:uw P br f fc)(h:sx γ n fc args bs=some (r,b_)):
  gZ P f∧ ∀(E:Nat→Prop) (w:World) (aS:Nat→cJ) (vs:List Value),jg W Φ w aS→(∀b,E b→b<w.heap.size)→Passed E w aS bs→aZ E w (bu aS (H0 bs)) args vs→
   Calls P f vs.toArray w fun e w'=> ∃v dz β,e= .returned v∧Chg aS w w'∧JX E w w' aS bs r b_ v dz β:=by
 obtain ⟨fN,fB,fR,fF,fZ⟩:=fc
 obtain ⟨fn,c,hfn,yy,hname,hN,hpc,hpr⟩:=hc
 have hN:fN=fn.ntmps:=hN
 have hpc:dO P fn.ntmps c fB:=hpc
 have hpr:qE P fn.results.toList=some fR:=hpr
 subst hN
 refine ⟨fun args w=>?_,fun E w aS vs awi hE uk hargs=>?_⟩
 ·simp only [callFunc,Sem.run_bind,run_program,Result.andThen_ok,hfn,yy]
  have hname:(fn.name== "runtime.NumGoroutine")=false:=by simpa using hname
  simp [hname]
 ·unfold sx at h
  split at h
  ·rename_i hlen
   have hal:=hargs.len
   have hlen:args.length≤fn.ntmps:=hlen
   refine calls_of_wp hfn yy ?_
   have hX: ∀b,dr E aS b→E b:=fun b hb=>by
    rcases hb with hb | ⟨i,c,hb⟩
    ·exact hb
    ·exact (uk.dom i b c hb).2
   have hch:Ch E (dr E aS) w w:=⟨Nat.le_refl _,fun b _ hb=>⟨rfl,fun hx=>hb (hX b hx)⟩⟩
   have hm0:Mem E bs aS w aS (H0 bs) w:=by
    refine ⟨fun i b hb=>?_,uk.inj,fun i b c hi=>?_,hE,uk.lt8,fun i b0 hi=>⟨?_,fun _=>rfl⟩,Nat.le_refl _,rfl,rfl,rfl,fun _ _ _=>rfl⟩
    ·have q:=uk.rep i b hb
     generalize aS i=pi at*
     cases pi with
     | nil a=>cases b<;>exact q
     | blk k c=>
      cases b with
      | box cs=>obtain ⟨Kc,T,h1,h2⟩:=q;exact ⟨Kc,T,h1,aZ.keep hch (fun _ _ h=>h) _ _ h2⟩
      | own e kk cs=>
       obtain ⟨q0,cur,xs,r1,r2,r3,r4,r5,r6,r7⟩:=q
       exact ⟨q0,cur,xs,r1,r2,r3,r4,r5,r6,aZ.keep hch (fun _ _ h=>h) _ _ r7⟩
    ·obtain ⟨h1,h2⟩:=uk.dom i b c hi
     exact ⟨hE b h2,.inr ⟨h1,c,hi⟩⟩
    ·simp only [H0,hi]
     cases b0<;>first | trivial | exact ⟨rfl,rfl⟩
   have hrel:Rel E bs aS w fn.ntmps (rX args bs) {tmps:=vs.toArray++Array.replicate (fn.ntmps-vs.toArray.size) undef,defers:= []} w:=by
    refine ⟨⟨aS,hm0,fun t=>?_⟩,rfl,by simp;omega⟩
    simp only [rX,List.getD_eq_getElem?_getD]
    by_cases ht:t<args.length
    ·obtain ⟨v,hv,q⟩:=hargs.get t args[t] (by simp [ht])
     rw [List.getElem?_eq_getElem ht]
     have xP:Act.eval {tmps:=vs.toArray++Array.replicate (fn.ntmps-vs.toArray.size) undef,defers:= []} (.tmp t)=v:=by
      simp only [Act.eval,Array.getD_eq_getD_getElem?]
      rw [Array.getElem?_append_left (by simp;omega)]
      simp [hv]
     rw [xP]
     exact cT.keep hch (fun _ _ h=>h) _ _ q
    ·rw [List.getElem?_eq_none (by omega)];trivial
   have fin: ∀{fx:Bool} {st:St} {a':Act} {w':World},DT fx st bs.length fR=some (r,b_)→Rel E bs aS w fn.ntmps st a' w'→a'.defers= []∧ ∃v,(results fn a'.tmps).run P w'= .ok v w'∧ ∃v' dz β,Ending.returned v= .returned v'∧Chg aS w w'∧JX E w w' aS bs r b_ v' dz β:=by
    intro fx st a' w' Qx ⟨⟨φ,hm,hs⟩,hd,_⟩
    obtain ⟨XC,ho,aaN,aAb⟩: ∃XC,bA st bs.length fR=some (r,XC)∧b_=XC++(if fx=true then [.box []] else [])∧(fx=true→GL st.h bs.length=true):=by
     cases fx with
     | false=>exact ⟨b_,Qx,by simp,fun h=>by cases h⟩
     | true=>
      simp only [DT] at Qx
      split at Qx
      ·rename_i r1 XC h1
       split at Qx
       ·rename_i hg
        simp only [Option.some.injEq,Prod.mk.injEq] at Qx
        obtain ⟨rfl,rfl⟩:=Qx
        exact ⟨XC,h1,by simp,fun _=>hg⟩
       ·cases Qx
      ·cases Qx
    have axw:cY r b_=cY r XC:=by
     subst aaN
     unfold cY
     rw [List.flatMap_append]
     cases fx<;>simp [x6,eD]
    clear Qx
    refine ⟨hd,?_⟩
    have hb:Chg aS w w':=⟨hm.os,hm.tape,hm.out,hm.sz,fun k hk hne=>hm.fr k hk (fun i c _=>hne i c)⟩
    unfold bA at ho
    split at ho
    ·rename_i bs2 ids awj
     split at ho
     ·rename_i l hl
      split at ho
      ·rename_i x HT hx
       simp only [Option.some.injEq,Prod.mk.injEq] at ho
       obtain ⟨rfl,rfl⟩:=ho
       obtain ⟨g1,g2⟩:=Kt awj
       have hat: ∀i,i<bs.length→b_[i]?=bs2[i]?:=fun i hi=>by
        rw [aaN,List.getElem?_append_left (by rw [g1];simpa using hi)]
       have nc: ∀i b,i<bs.length→(st.h i).b=some b→ ∃b',b_[i]?=some b'∧CN b b':=fun i b hi hb=>by
        obtain ⟨b1,b',h1,h2,h3⟩:=g2 i i (by simp [hi])
        rw [hb] at h1;cases h1
        exact ⟨b',by rw [hat i hi];exact h2,h3⟩
       obtain ⟨Kc,h1,h2⟩:=Ks hm hs hpr hl
       have hres: ∃v,(results fn a'.tmps).run P w'= .ok v w'∧cT (dr E φ) w' (bu φ st.h) (aaM l) v:=by
        have e:results fn a'.tmps=(do let vs←fn.results.mapM (Qv a'.tmps);pure (if h:vs.size=1 then vs[0] else .tuple vs)):=rfl
        have hrun:(results fn a'.tmps).run P w'= .ok (if h:Kc.toArray.size=1 then Kc.toArray[0] else .tuple Kc.toArray) w':=by
         rw [e,Sem.run_bind,Array.mapM_eq_mapM_toList]
         simp only [Sem.run_map,h1,Result.andThen_ok,Sem.run_pure]
        refine ⟨_,hrun,?_⟩
        have xS:=h2.len
        match l,Kc,h2,xS with
        | [p],[v],h2,_=>
         obtain ⟨v',rr,e,h3,_⟩:=h2
         cases e
         exact h3
        | [],[],h2,_=>exact ⟨#[],rfl,h2⟩
        | p::q::r,v::u::t,h2,_=>
         have Tn: ¬((v::u::t).toArray.size=1):=by simp
         rw [dif_neg Tn]
         exact ⟨_,rfl,h2⟩
        | [_],[],_,xS=>simp at xS
        | [_],_::_::_,_,xS=>simp at xS
        | [],_::_,_,xS=>simp at xS
        | _::_::_,[],_,xS=>simp at xS
        | _::_::_,[_],_,xS=>simp at xS
       obtain ⟨v,hrun,hv⟩:=hres
       obtain ⟨⟨t1,Tp⟩,a2,Xy,a3⟩:=Ku hm nc (List.range bs.length) [] bs2 ids (fun i hi=>List.mem_range.1 hi) awj
       obtain ⟨⟨t2,ht2⟩,c2,c2',c3⟩:=OL hm nc (aaM l) ids _ HT v hx hv
       have hnd:=c2 (a2 List.nodup_nil)
       have Gt:=c2' (Xy (by simp))
       obtain ⟨e1,e2⟩:=a3 HT ⟨t2,ht2⟩
       obtain ⟨e3,e4⟩:=c3 HT ⟨[],by simp⟩
       refine ⟨v,hrun,v,yx φ bs.length,oK φ HT,rfl,hb,?_⟩
       have βb: ∀j b c,oK φ HT j= .blk b c→ ∃i,HT[j]?=some i∧φ i= .blk b c:=by
        intro j b c hj
        unfold oK at hj
        split at hj
        ·rename_i i hi;exact ⟨i,hi,hj⟩
        ·cases hj
       have φb: ∀i b c,yx φ bs.length i= .blk b c→i<bs.length∧φ i= .blk b c:=by
        intro i b c hi
        unfold yx at hi
        split at hi
        ·exact ⟨‹_›,hi⟩
        ·cases hi
       have aj7:bs2.length=bs.length:=by rw [g1];simp
       have asP:b_.length=bs.length∨b_.length=bs.length+1:=by
        rw [aaN,List.length_append,aj7];cases fx<;>simp
       have CJ:b_.length=bs.length+1→fx=true:=fun h=>by
        rw [aaN,List.length_append,aj7] at h
        cases fx with
        | true=>rfl
        | false=>simp at h
       refine ⟨e3,fun i b jx hi=>?_,fun x hx=>?_,asP,fun i b hi=>?_,fun i b c hi=>?_,fun i j b c c' hi hj=>?_,fun i j b c c' hi hj=>?_,fun i j b c c' hi hj=>?_,fun j b c hj=>?_⟩
       ·rw [hat i jx] at hi
        have:=e1 i i b (by simp [jx]) hi
        unfold yx;rw [if_pos jx];exact this
       ·rw [axw] at hx
        have hxx: ∃i,HT[x.1]?=some i∧(st.h i).b=some x.2:=by
         rcases List.mem_append.1 hx with hx | hx
         ·exact e4 x hx
         ·exact e2 x hx
        have hyo: ∃e k cs,x.2= .own e k cs:=by
         rcases List.mem_append.1 hx with h | h
         ·exact Au _ x h
         ·obtain ⟨bb,WX,h⟩:=List.mem_flatMap.1 h
          cases bb with
          | box cs=>exact nS cs x h
          | own=>simp [x6] at h
        obtain ⟨i,hi,Qn⟩:=hxx
        have pV:oK φ HT x.1=φ i:=by unfold oK;rw [hi]
        have q:=hm.rep i _ Qn
        obtain ⟨e,k,cs,hown⟩:=hyo
        rw [pV]
        rw [hown] at q ⊢
        cases ey:φ i with
        | nil a=>rw [ey] at q;exact q
        | blk b1 c1=>
         rw [ey] at q
         obtain ⟨q0,cur,xs,r1,r2,r3,r4,r5,r6,r7⟩:=q
         exact ⟨q0,cur,xs,r1,r2,r3,r4,r5,r6,aZ.CG (Qw _ _) r7⟩
       ·have jx:=(List.getElem?_eq_some_iff.1 hi).1
        obtain ⟨p1,p2⟩:=hm.pass i b hi
        obtain ⟨b1,b',h1,h2,h3⟩:=g2 i i (by simp [jx])
        rw [h1] at p1
        rw [hat i jx,h2]
        refine ⟨XA p1 h3,fun Xx=>?_⟩
        unfold yx;rw [if_pos jx]
        refine p2 (Xx.imp id fun hl=>?_)
        have hg:=aAb (CJ hl)
        unfold GL at hg
        exact Nat.eq_of_beq_eq_true (List.all_eq_true.1 hg i (List.mem_range.2 jx))
       ·obtain ⟨jx,h1⟩:=φb i b c hi
        have:=hm.lt i b c h1
        exact ⟨jx,this.1,this.2.imp id fun h=>h.2⟩
       ·exact hm.inj i j b c c' (φb i b c hi).2 (φb j b c' hj).2
       ·obtain ⟨a,ha,h1⟩:=βb i b c hi
        obtain ⟨a',ha',h2⟩:=βb j b c' hj
        have:=hm.inj a a' b c c' h1 h2
        subst this
        exact (List.getElem?_inj (List.getElem?_eq_some_iff.1 ha).1 hnd).1 (ha.trans ha'.symm)
       ·obtain ⟨jx,h1⟩:=φb i b c hi
        obtain ⟨a,ha,h2⟩:=βb j b c' hj
        have:=hm.inj i a b c c' h1 h2
        subst this
        have:=Gt i (List.mem_of_getElem? ha)
        omega
       ·obtain ⟨i,hi,h1⟩:=βb j b c hj
        have:=hm.lt i b c h1
        refine ⟨?_,this.1⟩
        rcases this.2 with h | ⟨h,_⟩
        ·exact h
        ·have:=Gt i (List.mem_of_getElem? hi);omega
      ·cases ho
     ·cases ho
    ·cases ho
   split at h
   ·rename_i st hst
    exact hpc (kV.at awi) n hst hrel fun a' w' jZ=>fin h (Tl fF jZ)
   ·rename_i st hst
    exact hpc (kV.at awi) n hst hrel fun a' w' jZ=>fin h (Tl fF jZ)
   ·cases h
  ·cases h
theorem DU{W:World}{Φ:Nat→cJ}{br:List Nat}{az:Nat→Option aO}{base:cX}(hb:nI P base W Φ)(hc: ∀f fc,az f=some fc→uw P br f fc): ∀n,nI P (cg az base n) W Φ
 | 0=>hb
 | n+1=>by
  intro f args bs r b_ h
  simp only [cg] at h
  split at h
  ·rename_i fc XD
   unfold Qu at h
   split at h
   ·split at h
    ·rename_i m cs ar
     split at h
     ·rename_i r' jZ
      split at h
      ·rename_i hor
       cases h
       obtain ⟨k,hk⟩:=yu jZ
       have s1:=qh (DU hb hc n) (hc f fc XD) hk
       refine ⟨s1.1,fun E w aS vs hL hE hp hr=>?_⟩
       obtain ⟨v,rest,rfl,hv,CO⟩:=hr
       have hv:dQ E w (.sl m cs) v:=hv
       obtain ⟨a,c,e1,h1,h2,h3,h4⟩:=hv
       cases a with
       | some ad=>exact s1.2 E w aS _ hL hE hp ⟨v,rest,rfl,⟨⟨some ad,c,e1,h1,h2,h3,h4⟩,some ad,c,e1,rfl⟩,CO⟩
       | none=>
        have hm:m=0:=by have:=h3 rfl;omega
        rcases hor with hor | hor
        ·exact absurd hm hor
        ·obtain ⟨k2,hk2⟩:=yu hor
         have s2:=qh (DU hb hc n) (hc f fc XD) hk2
         subst hm
         exact s2.2 E w aS _ hL hE hp ⟨v,rest,rfl,⟨⟨none,c,e1,h1,h2,h3,.inl rfl⟩,none,c,e1,rfl⟩,CO⟩
      ·cases h
     ·cases h
    ·cases h
   ·obtain ⟨k,hk⟩:=yu h
    exact qh (DU hb hc n) (hc f fc XD) hk
  ·exact hb f args bs r b_ h
theorem kj{br:List Nat}{az:Nat→Option aO}{base:cX}(hb:nI P base w fun _=> .nil none)(hc: ∀f fc,az f=some fc→uw P br f fc){n f:Nat}{args:List PV}{r:PV}(h:cg az base n f args []=some (r,[])){vs:List Value}(hargs:aZ (fun _=>False) w (fun _ _=>False) args vs):
  Calls P f vs.toArray w fun e w'=> ∃v dz β,e= .returned v∧Below w.heap.size w w'∧JX (fun _=>False) w w' (fun _=> .nil none) [] r [] v dz β:=by
 have uk:Passed (fun _=>False) w (fun _=> .nil none) []:=⟨by simp,(fun i b c h=>by cases h),(fun i j b c c' h=>by cases h),(fun i b h=>by simp at h)⟩
 refine ((DU hb hc n f args [] r [] h).2 _ w (fun _=> .nil none) vs .refl (fun _ h=>h.elim) uk (aZ.keep (Ch.refl _ _) (fun _ _ h=>h.elim) _ _ hargs)).mono ?_
 rintro e w' ⟨v,dz,β,rfl,hb,ho⟩
 exact ⟨v,dz,β,rfl,⟨hb.os,hb.tape,hb.out,hb.size,fun k hk=>hb.blk k hk (fun i c h=>by cases h)⟩,ho⟩
end
end Go.Proofs.YtobkkblijfhpoaaGreatDoor.Pm
