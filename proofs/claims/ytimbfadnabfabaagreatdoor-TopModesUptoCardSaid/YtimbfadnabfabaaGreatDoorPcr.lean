/- The small machine: a call that is handed blocks. No program is named here. -/
import Derived.Test.YtimbfadnabfabaaGreatDoorPu
namespace Go.Proofs.YtimbfadnabfabaaGreatDoor.Pm
open Go.RowKit

section
theorem u7: ∀(l:List Nat),(dedup l).Nodup
 | []=>List.nodup_nil
 | y::l=>by
  unfold dedup
  split
  ·exact u7 l
  ·rename_i h
   refine List.nodup_cons.2 ⟨fun hy=>h (List.any_eq_true.2 ⟨y,hy,by simp⟩),u7 l⟩
theorem qP: ∀{ids:List Nat} {i p:Nat},posOf ids i=some p→ids[p]?=some i
 | [],i,p,h=>by cases h
 | x::xs,i,p,h=>by
  unfold posOf at h
  split at h
  ·rename_i e;subst e;cases h;rfl
  ·split at h
   ·rename_i q hq;cases h;simpa using qP hq
   ·cases h
theorem RP: ∀{ids:List Nat},ids.Nodup→ ∀{i p:Nat},ids[p]?=some i→posOf ids i=some p
 | [],_,i,p,h=>by simp at h
 | x::xs,hn,i,p,h=>by
  obtain ⟨hx,hn⟩:=List.nodup_cons.1 hn
  unfold posOf
  cases p with
  | zero=>simp at h;subst h;simp
  | succ p=>
   have h:xs[p]?=some i:=by simpa using h
   have hne:x≠i:=fun e=>hx (e▸List.mem_of_getElem? h)
   rw [if_neg hne,RP hn h]
theorem ER{H:Nat→cq}: ∀{ids:List Nat} {bs:List bH},gH H ids=some bs→bs.length=ids.length∧ ∀(p i:Nat),ids[p]?=some i→ ∃b,bs[p]?=some b∧(H i).b=some b
 | [],bs,h=>by simp only [gH,Option.some.injEq] at h;subst h;exact ⟨rfl,fun p i hp=>by simp at hp⟩
 | i::ids,bs,h=>by
  simp only [gH] at h
  split at h
  ·rename_i b l h1 h2
   simp only [Option.some.injEq] at h;subst h
   obtain ⟨h3,h4⟩:=ER h2
   refine ⟨by simp [h3],fun p j hp=>?_⟩
   cases p with
   | zero=>simp at hp;subst hp;exact ⟨b,rfl,h1⟩
   | succ p=>simpa using h4 p j (by simpa using hp)
  ·cases h
theorem MP: ∀(a b:eu) (H:Nat→cq),eJ H (a++b)=eJ (eJ H a) b
 | [],_,_=>rfl
 | x::a,b,H=>by simp only [List.cons_append,eJ];exact MP a b _
theorem y9{fx:Bool}{H:Nat→cq}{all:List Nat}{d:Nat}: ∀(is:List Nat) (bs:List bH) (x:Nat×cq),x∈j7 fx H all d is bs→x.1∈is
 | [],_,x,h=>by simp [j7] at h
 | i::is,[],x,h=>by simp [j7] at h
 | i::is,b::bs,x,h=>by
  simp only [j7,List.mem_cons] at h
  rcases h with rfl | h
  ·exact List.mem_cons_self
  ·exact List.mem_cons_of_mem _ (y9 is bs x h)
theorem Io{fx:Bool}{H0' H:Nat→cq}{all:List Nat}{d:Nat}: ∀(is:List Nat) (bs:List bH) (H0':Nat→cq),is.Nodup→is.length≤bs.length→ ∀(p i:Nat) (b:bH),is[p]?=some i→bs[p]?=some b→eJ H0' (j7 fx H all d is bs) i=⟨pU fx H i,some (Lg fx all H d b)⟩
 | [],_,_,_,_,p,i,b,h,_=>by simp at h
 | i::is,[],_,_,hl,_,_,_,_,_=>by simp at hl
 | i::is,b::bs,H0',hn,hl,p,j,c,h1,h2=>by
  obtain ⟨hx,hn⟩:=List.nodup_cons.1 hn
  simp only [j7,eJ]
  cases p with
  | zero=>
   simp at h1 h2;subst h1;subst h2
   rw [jt _ _ _ (fun y hy e=>hx (by have:=y9 is bs y hy;rwa [e] at this)),aQ]
  | succ p=>exact Io (H0':=H0') is bs _ hn (by simpa using hl) p j c (by simpa using h1) (by simpa using h2)

variable {P : Program} {E : Nat → Prop} {m : List bH} {aP φ : Nat → cg} {H : Nat → cq} {w0 w : World} {γ : ek} {d : Nat} {fx : Bool}
def wD(φ:Nat→cg)(ids:List Nat)(p:Nat):cg:=match ids[p]? with | some i=>φ i | none=> .nil none
mutual
theorem ahD{X:Nat→Prop}{ids:List Nat}{bs:List bH}(hb:gH H ids=some bs): ∀(p:PV) (v:Value),cJ X w (bh φ H) p v→cJ X w (bh (wD φ ids) (H0 (bs.map (nQ ids H)))) (HQ ids H p) v
 | .d x,v,q=>q
 | .agg cs,v,⟨vs,e,q⟩=>⟨vs,e,tW hb cs _ q⟩
 | .bE cs,v,⟨vs,e,q⟩=>⟨vs,e,tW hb cs _ q⟩
 | .fn f cs,v,⟨vs,e,q⟩=>⟨vs,e,tW hb cs _ q⟩
 | .cD cs,v,q=>q
 | .nil,v,q=>q
 | .jo z n cs,v,q=>q
 | .un,v,q=>trivial
 | .r (.own ..),v,q=>trivial
 | .r (.ptr i g o),v,q=>by
  simp only [HQ]
  split
  ·rename_i b p hl hp
   unfold look at hl
   split at hl
   ·rename_i hg
    obtain ⟨q1,_,q3⟩:=q
    obtain ⟨b1,c1,h1,h2⟩:=q3 hg (by rw [hl];rfl)
    refine ⟨q1,Nat.le_refl _,fun _ _=>⟨b1,c1,?_,h2⟩⟩
    unfold wD
    rw [qP hp];exact h1
   ·cases hl
  ·trivial
 | .r (.aJ i g l n),v,q=>by
  simp only [HQ]
  split
  ·rename_i b p hl hp
   unfold look at hl
   split at hl
   ·rename_i hg
    obtain ⟨q1,_,q3⟩:=q
    refine ⟨q1,Nat.le_refl _,fun _ e k cs hbp=>?_⟩
    obtain ⟨b2,h2,h3⟩:=(ER hb).2 p i (qP hp)
    have hown:(H i).b=some (.own e k cs):=by
     simp only [H0,List.getElem?_map,h2,Option.map_some,Option.some.injEq] at hbp
     rw [h3]
     cases b2 with
     | box=>simp [nQ] at hbp
     | own=>simp only [nQ] at hbp;rw [hbp]
    have:=q3 hg e k cs hown
    unfold wD
    rw [qP hp];exact this
   ·cases hl
  ·trivial
theorem tW{X:Nat→Prop}{ids:List Nat}{bs:List bH}(hb:gH H ids=some bs): ∀(ps:List PV) (vs:List Value),aY X w (bh φ H) ps vs→aY X w (bh (wD φ ids) (H0 (bs.map (nQ ids H)))) (wN ids H ps) vs
 | [],vs,q=>q
 | p::ps,vs,⟨v,r,e,q1,q2⟩=>⟨v,r,e,ahD hb p v q1,tW hb ps r q2⟩
end
theorem aY.axn{X:Nat→Prop}{R R':Ref→Value→Prop}{w:World}{cs:List PD}{vs:List Value}(h:aY X w R (cs.map .d) vs):aY X w R' (cs.map .d) vs:=aY.Bz (fun _ _ h=>h) h
mutual
theorem RQ{Y X':Nat→Prop}{w':World}{dA β bp:Nat→cg}{bJ:List bH}{ids:List Nat}{H':Nat→cq}(tT: ∀b,b<w'.heap.size→ ¬Y b→ ¬X' b)(hlen:ids.length≤bJ.length)
  (hat: ∀(p i:Nat) (b:bH),ids[p]?=some i→bJ[p]?=some b→H' i=⟨pU fx H i,some (Lg fx ids H d b)⟩∧bp i=dA p)
  (h2: ∀j e k n cs v,gI dA bJ β (.own j e k n cs) v→H' (aZ d j)=⟨(H (aZ d j)).g+1,some (.own e k cs)⟩→bp (aZ d j)=β j→bh bp H' (.aJ (aZ d j) ((H (aZ d j)).g+1) 0 n) v):
  ∀(p:PV) (v:Value),(∀x∈owns p,H' (aZ d x.1)=⟨(H (aZ d x.1)).g+1,some x.2⟩∧bp (aZ d x.1)=β x.1)→cJ Y w' (gI dA bJ β) p v→cJ X' w' (bh bp H') (qL fx ids H d p) v
 | .d x,v,_,q=>dR.sub tT q
 | .agg cs,v,ho,⟨vs,e,q⟩=>⟨vs,e,wZ tT hlen hat h2 cs _ ho q⟩
 | .bE cs,v,ho,⟨vs,e,q⟩=>⟨vs,e,wZ tT hlen hat h2 cs _ ho q⟩
 | .fn f cs,v,ho,⟨vs,e,q⟩=>⟨vs,e,wZ tT hlen hat h2 cs _ ho q⟩
 | .cD cs,v,_,⟨b,o,e,h3,h4,h5⟩=>⟨b,o,e,tT b h4 h3,h4,h5.sub tT h3 h4⟩
 | .nil,v,_,q=>q
 | .jo z n cs,v,_,q=>⟨dR.sub tT q.1,q.2⟩
 | .un,v,_,q=>trivial
 | .r (.ptr p g o),v,_,q=>by
  simp only [qL]
  split
  ·rename_i i hi
   obtain ⟨b,hb⟩: ∃b,bJ[p]?=some b:=by
    have:=(List.getElem?_eq_some_iff.1 hi).1
    exact ⟨_,List.getElem?_eq_getElem (by omega)⟩
   obtain ⟨a1,a2⟩:=hat p i b hi hb
   have q:bh dA (H0 bJ) (.ptr p g o) v:=q
   obtain ⟨q1,q2,q3⟩:=q
   have hg0:g=0:=Nat.le_zero.1 q2
   obtain ⟨b1,c1,h1,h2'⟩:=q3 (by rw [hg0];rfl) (by simp only [H0,hb];rfl)
   refine ⟨q1,by rw [a1];exact Nat.le_refl _,fun _ _=>⟨b1,c1,by rw [a2];exact h1,h2'⟩⟩
  ·trivial
 | .r (.aJ p g l n),v,_,q=>by
  simp only [qL]
  split
  ·rename_i i hi
   obtain ⟨b,hb⟩: ∃b,bJ[p]?=some b:=by
    have:=(List.getElem?_eq_some_iff.1 hi).1
    exact ⟨_,List.getElem?_eq_getElem (by omega)⟩
   obtain ⟨a1,a2⟩:=hat p i b hi hb
   have q:bh dA (H0 bJ) (.aJ p g l n) v:=q
   obtain ⟨q1,q2,q3⟩:=q
   have hg0:g=0:=Nat.le_zero.1 q2
   refine ⟨q1,by rw [a1];exact Nat.le_refl _,fun _ e k cs OM=>?_⟩
   rw [a1] at OM
   have hbe:b= .own e k cs:=by
    simp only [Option.some.injEq] at OM
    cases b with
    | box=>simp [Lg] at OM
    | own=>simp only [Lg] at OM;exact OM
   subst hbe
   have:=q3 (by rw [hg0];rfl) e k cs (by simp only [H0,hb])
   rw [a2];exact this
  ·trivial
 | .r (.own j e k n cs),v,ho,q=>by
  obtain ⟨h3,h4⟩:=ho (j,.own e k cs) (by simp [owns])
  exact h2 j e k n cs v q h3 h4
theorem wZ{Y X':Nat→Prop}{w':World}{dA β bp:Nat→cg}{bJ:List bH}{ids:List Nat}{H':Nat→cq}(tT: ∀b,b<w'.heap.size→ ¬Y b→ ¬X' b)(hlen:ids.length≤bJ.length)
  (hat: ∀(p i:Nat) (b:bH),ids[p]?=some i→bJ[p]?=some b→H' i=⟨pU fx H i,some (Lg fx ids H d b)⟩∧bp i=dA p)
  (h2: ∀j e k n cs v,gI dA bJ β (.own j e k n cs) v→H' (aZ d j)=⟨(H (aZ d j)).g+1,some (.own e k cs)⟩→bp (aZ d j)=β j→bh bp H' (.aJ (aZ d j) ((H (aZ d j)).g+1) 0 n) v):
  ∀(ps:List PV) (vs:List Value),(∀x∈eB ps,H' (aZ d x.1)=⟨(H (aZ d x.1)).g+1,some x.2⟩∧bp (aZ d x.1)=β x.1)→aY Y w' (gI dA bJ β) ps vs→aY X' w' (bh bp H') (OB fx ids H d ps) vs
 | [],vs,_,q=>q
 | p::ps,vs,ho,⟨v,r,e,q1,q2⟩=>⟨v,r,e,RQ tT hlen hat h2 p v (fun x hx=>ho x (by simp [eB,hx])) q1,wZ tT hlen hat h2 ps r (fun x hx=>ho x (by simp [eB,hx])) q2⟩
end
theorem MQ: ∀{ids:List Nat} {bJ:List bH} {q i:Nat} {e k e' k':Nat} {cs cs':List PD},iy H ids bJ=true→ids[q]?=some i→bJ[q]?=some (.own e' k' cs')→(H i).b=some (.own e k cs)→cs'.length=cs.length
 | [],_,q,_,_,_,_,_,_,_,_,h,_,_=>by simp at h
 | _::_,[],q,_,_,_,_,_,_,_,_,_,h,_=>by simp at h
 | x::is,b::bs,0,i,_,_,_,_,cs,cs',hs,h1,h2,h3=>by
  simp at h1 h2;subst h1;subst h2
  simp only [iy,h3,Bool.and_eq_true] at hs
  exact of_decide_eq_true hs.1
 | x::is,b::bs,q+1,i,_,_,_,_,cs,cs',hs,h1,h2,h3=>by
  simp only [iy,Bool.and_eq_true] at hs
  exact MQ hs.2 (by simpa using h1) (by simpa using h2) h3
theorem RR(hm:Mem E m aP w0 φ H w)(kL:nS P γ w0 aP){f:Nat}{args:List PV}{vs:List Value}{p:PV}{aD:eu}(hargs:aY (cV E φ) w (bh φ H) args vs)(he:mR γ H d f args=some (p,aD)){x:Sem Next}
  (hx:x.run P w=(callFunc f vs.toArray).run P w):Does P E m aP w0 φ H w p aD x:=by
 unfold mR at he
 have hnd:(fK H args).Nodup:=u7 _
 generalize fK H args=ids at he hnd
 split at he
 ·cases he
 ·rename_i bs mU
  split at he
  ·cases he
  ·rename_i r bJ hr
   split at he
   ·rename_i Ik
    simp only [Option.some.injEq,Prod.mk.injEq] at he
    obtain ⟨rfl,rfl⟩:=he
    simp only [Bool.and_eq_true,List.all_eq_true,decide_eq_true_eq,Bool.not_eq_true'] at Ik
    obtain ⟨⟨⟨kK,hl8⟩,VF⟩,hj⟩:=Ik
    obtain ⟨hbl,hbg⟩:=ER mU
    have hlen:ids.length≤bJ.length:=by
     unfold Lh at kK
     split at kK
     ·rename_i h;have:=Nat.eq_of_beq_eq_true h;omega
     ·have:=of_decide_eq_true kK;omega
    have ahF:wC ids bJ=true→iy H ids bJ=true:=fun h=>by unfold Lh at kK;rwa [if_pos h] at kK
    have EO:wC ids bJ=true→bJ.length=(bs.map (nQ ids H)).length+1:=fun h=>by have:=Nat.eq_of_beq_eq_true h;rw [List.length_map];omega
    generalize wC ids bJ=fx at ahF EO ⊢
    obtain ⟨ahC,Il⟩:=kL f _ _ r bJ hr
    have hE: ∀b,cV E φ b→b<w.heap.size:=by
     intro b hb
     rcases hb with h | ⟨i,c,h⟩
     ·exact Nat.lt_of_lt_of_le (hm.ext b h) hm.sz
     ·exact (hm.lt i b c h).1
    have qz: ∀q b c,wD φ ids q= .blk b c→ ∃i,ids[q]?=some i∧φ i= .blk b c:=by
     intro q b c h
     unfold wD at h
     split at h
     ·rename_i i hi;exact ⟨i,hi,h⟩
     ·cases h
    have tU:Passed (cV E φ) w (wD φ ids) (bs.map (nQ ids H)):=by
     refine ⟨by simp;omega,fun q b c h=>?_,fun i j b c c' h1 h2=>?_,fun q b h=>?_⟩
     ·obtain ⟨i,hi,h⟩:=qz q b c h
      have:=(List.getElem?_eq_some_iff.1 hi).1
      exact ⟨by simp;omega,.inr ⟨i,c,h⟩⟩
     ·obtain ⟨a,ha,h1⟩:=qz i b c h1
      obtain ⟨a2,ha2,h2⟩:=qz j b c' h2
      have:=hm.inj a a2 b c c' h1 h2
      subst this
      exact (List.getElem?_inj (List.getElem?_eq_some_iff.1 ha).1 hnd).1 (ha.trans ha2.symm)
     ·simp only [List.getElem?_map,Option.map_eq_some_iff] at h
      obtain ⟨b0,hb0,rfl⟩:=h
      have hql:q<ids.length:=by have:=(List.getElem?_eq_some_iff.1 hb0).1;omega
      have hi:ids[q]?=some ids[q]:=List.getElem?_eq_getElem hql
      obtain ⟨b1,hb1,ES⟩:=hbg q _ hi
      rw [hb0] at hb1;cases hb1
      have dz:=hm.rep _ _ ES
      have en:wD φ ids q=φ ids[q]:=by unfold wD;rw [hi]
      rw [en]
      cases avM:φ ids[q] with
      | nil a=>rw [avM] at dz;cases b0<;>exact dz
      | blk b c=>
       rw [avM] at dz
       cases b0 with
       | box cs=>
        obtain ⟨Im,T,h1,h2⟩:=dz
        exact ⟨Im,T,h1,tW mU cs _ h2⟩
       | own e k cs=>
        obtain ⟨q0,cur,xs,r1,r2,r3,r4,r5,r6,r7⟩:=dz
        exact ⟨q0,cur,xs,r1,r2,r3,r4,r5,r6,r7.axn⟩
    have hc:=Il (cV E φ) w (wD φ ids) vs (hm.later.sub fun q b c h=>by obtain ⟨i,_,h⟩:=qz q b c h;exact ⟨i,c,h⟩) hE tU (tW mU args vs hargs)
    refine .inr (.inr ⟨f,vs.toArray,by rw [hx];exact ahC _ _,hc.mono ?_⟩)
    rintro e w' ⟨v,dA,β,rfl,hb,ho⟩
    refine ⟨v,rfl,?_⟩
    have VG: ∀a b,aZ d a=aZ d b→a=b:=fun a b h=>by unfold aZ at h;omega
    let os:=cA r bJ
    let I:Nat→Prop:=fun i=>i∈ids∨ ∃y∈os,i=aZ d y.1
    have avN: ∀y∈os,aZ d y.1∉ids:=fun y hy ahG=>by
     have:=(hj y hy).2
     rw [List.any_eq_true.2 ⟨_,ahG,by simp⟩] at this
     cases this
    let H':=eJ H (j7 fx H ids d ids bJ++os.map fun x=>nw H (aZ d x.1) x.2)
    have hH':H'=eJ (eJ H (j7 fx H ids d ids bJ)) (os.map fun x=>nw H (aZ d x.1) x.2):=MP _ _ _
    have hH: ∀y∈os,H' (aZ d y.1)=⟨(H (aZ d y.1)).g+1,some y.2⟩:=fun y hy=>by
     rw [hH']
     exact Ii os (aZ d) (fun y=>⟨(H (aZ d y.1)).g+1,some y.2⟩) _ y (fun _ _ _ _ h=>VG _ _ h) VF hy
    have avO: ∀i,(¬ ∃y∈os,i=aZ d y.1)→H' i=eJ H (j7 fx H ids d ids bJ) i:=fun i hi=>by
     rw [hH']
     exact jt _ _ _ (fun y hy e=>by
      obtain ⟨z,hz,rfl⟩:=List.mem_map.1 hy
      exact hi ⟨z,hz,e.symm⟩)
    have RS: ∀(q i:Nat) (b:bH),ids[q]?=some i→bJ[q]?=some b→H' i=⟨pU fx H i,some (Lg fx ids H d b)⟩:=fun q i b hi hb'=>by
     rw [avO i (fun ⟨y,hy,e⟩=>avN y hy (e▸List.mem_of_getElem? hi))]
     exact Io (H0':=H) ids bJ H hnd hlen q i b hi hb'
    have aBb: ∀i,¬I i→H' i=H i:=fun i hi=>by
     rw [avO i (fun h=>hi (.inr h))]
     exact jt _ _ _ (fun y hy e=>hi (.inl (e▸y9 ids bJ y hy)))
    let bp:Nat→cg:=fun i=>if os.any (fun y=>Nat.beq i (aZ d y.1)) then β (i-8*d-8) else match posOf ids i with | some q=>dA q | none=>φ i
    have qO: ∀y∈os,bp (aZ d y.1)=β y.1:=fun y hy=>by
     show (if _ then _ else _)=_
     rw [if_pos (List.any_eq_true.2 ⟨y,hy,by simp⟩),RN]
    have Ze: ∀i,(¬ ∃y∈os,i=aZ d y.1)→ ¬(os.any (fun y=>Nat.beq i (aZ d y.1))=true):=fun i hi h=>by
     obtain ⟨y,hy,e⟩:=List.any_eq_true.1 h
     exact hi ⟨y,hy,by simpa using e⟩
    have qQ: ∀q i,ids[q]?=some i→bp i=dA q:=fun q i hi=>by
     show (if _ then _ else _)=_
     rw [if_neg (Ze i (fun ⟨y,hy,e⟩=>avN y hy (e▸List.mem_of_getElem? hi))),RP hnd hi]
    have ahH: ∀i,¬I i→bp i=φ i:=fun i hi=>by
     show (if _ then _ else _)=_
     rw [if_neg (Ze i (fun h=>hi (.inr h)))]
     cases hp:posOf ids i with
     | none=>rfl
     | some q=>exact absurd (.inl (List.mem_of_getElem? (qP hp))) hi
    have FI: ∀i,i∈ids→ ∃q b b0,ids[q]?=some i∧bJ[q]?=some b∧(bs.map (nQ ids H))[q]?=some (nQ ids H b0)∧(H i).b=some b0:=fun i hi=>by
     obtain ⟨q,hq,rfl⟩:=List.getElem_of_mem hi
     obtain ⟨b0,h1,h2⟩:=hbg q _ (List.getElem?_eq_getElem hq)
     exact ⟨q,bJ[q]'(by omega),b0,List.getElem?_eq_getElem hq,List.getElem?_eq_getElem (by omega),(by rw [List.getElem?_map,h1];rfl),h2⟩
    have tT: ∀b,b<w'.heap.size→ ¬Yo (cV E φ) dA β b→ ¬cV E bp b:=by
     intro b _ hn EF
     rcases EF with h | ⟨i,c,h⟩
     ·exact hn (.inl (.inl h))
     ·by_cases h1: ∃y∈os,i=aZ d y.1
      ·obtain ⟨y,hy,rfl⟩:=h1
       rw [qO y hy] at h
       exact hn (.inr (.inr ⟨_,_,h⟩))
      ·by_cases h2:i∈ids
       ·obtain ⟨q,_,_,hq,_⟩:=FI i h2
        rw [qQ q i hq] at h
        exact hn (.inr (.inl ⟨_,_,h⟩))
       ·rw [ahH i (fun h=>h.elim h2 h1)] at h
        exact hn (.inl (.inr ⟨i,c,h⟩))
    have hown: ∀{bp:Nat→cg} {H':Nat→cq} (j:Nat) (e:TypeId) (k n:Nat) (cs:List PD) (v:Value),gI dA bJ β (.own j e k n cs) v→H' (aZ d j)=⟨(H (aZ d j)).g+1,some (.own e k cs)⟩→bp (aZ d j)=β j→bh bp H' (.aJ (aZ d j) ((H (aZ d j)).g+1) 0 n) v:=by
     intro bp H' j e k n cs v' kn OO CL
     obtain ⟨hk,hlen,hv'⟩:=kn
     cases tV:β j with
     | nil a=>
      rw [tV] at hv' CL
      obtain ⟨rfl,rfl⟩:=hv'
      have hn:n=0:=by
       rw [List.length_nil] at hlen
       rcases Nat.mul_eq_zero.1 hlen.symm with h | h
       ·exact h
       ·omega
      subst hn
      have:=oJ (H:=H') (i:=aZ d j) (e:=e) CL (by rw [OO]) hk
      rw [OO] at this
      exact this
     | blk b c=>
      rw [tV] at hv' CL
      obtain ⟨rfl,hn⟩:=hv'
      have:=qw (H:=H') (i:=aZ d j) (e:=e) (cs:=cs) CL (by rw [OO]) hk hlen hn
      rw [OO] at this
      exact this
    have kinds: ∀{i q:Nat} {b b0:bH},ids[q]?=some i→bJ[q]?=some b→(bs.map (nQ ids H))[q]?=some (nQ ids H b0)→(H i).b=some b0→
      (∃cs cs',b0= .box cs∧b= .box cs'∧dA q=φ i)∨(∃e k cs cs',b0= .own e k cs∧b= .own e k cs'∧(fx=true→dA q=φ i∧cs.length=cs'.length)):=by
     intro i q b b0 hi hb' hb0 ES
     obtain ⟨k1,k2⟩:=ho.kind q _ hb0
     rw [hb'] at k1
     cases b0 with
     | box cs=>
      cases b with
      | box cs'=>
       refine .inl ⟨cs,cs',rfl,rfl,?_⟩
       rw [k2 (.inl rfl)];unfold wD;rw [hi]
      | own=>exact k1.elim
     | own e k cs=>
      cases b with
      | box=>exact k1.elim
      | own e' k' cs'=>
       obtain ⟨rfl,rfl⟩:=k1
       refine .inr ⟨_,_,cs,cs',rfl,rfl,fun hf=>⟨?_,?_⟩⟩
       ·rw [k2 (.inr (EO hf))];unfold wD;rw [hi]
       ·exact (MQ (ahF hf) hi hb' ES).symm
    have nG:=hm.upd (bp:=bp) (w':=w') (H':=H') I (fun j hj=>⟨ahH j hj,aBb j hj⟩)
     (fun j hj=>by
      by_cases h1: ∃y∈os,j=aZ d y.1
      ·obtain ⟨y,hy,rfl⟩:=h1;rw [hH y hy];exact .inl (Nat.lt_succ_self _)
      ·have h2:=hj.resolve_right h1
       obtain ⟨q,b,b0,hq,hb',hb0,ES⟩:=FI j h2
       rw [RS q j b hq hb']
       rcases kinds hq hb' hb0 ES with ⟨cs,cs',rfl,rfl,RT⟩ | ⟨e,k,cs,cs',rfl,rfl,w8⟩
       ·exact .inr ⟨by rw [qQ q j hq,RT],by show pU fx H j=_;unfold pU;rw [ES];cases fx<;>rfl,by rw [ES];trivial⟩
       ·cases hf:fx with
        | false=>exact .inl (by show _<pU false H j;unfold pU;rw [ES];exact Nat.lt_succ_self _)
        | true=>
         obtain ⟨RT,hle⟩:=w8 hf
         exact .inr ⟨by rw [qQ q j hq,RT],by show pU true H j=_;unfold pU;rfl,by rw [ES];exact ⟨rfl,rfl,hle⟩⟩)
     (fun b hb' hne=>hb.blk b hb' (fun q c h=>by
      obtain ⟨i,hi,h⟩:=qz q b c h
      exact hne i c (.inl (List.mem_of_getElem? hi)) h))
     (fun j b c hj hp=>by
      by_cases h1: ∃y∈os,j=aZ d y.1
      ·obtain ⟨y,hy,rfl⟩:=h1;rw [qO y hy] at hp;have:=ho.new _ _ _ hp;exact ⟨this.2,.inl this.1⟩
      ·have h2:=hj.resolve_right h1
       obtain ⟨q,_,_,hq,_⟩:=FI j h2
       rw [qQ q j hq] at hp
       obtain ⟨_,h4,h5⟩:=ho.dom _ _ _ hp
       refine ⟨h4,h5.imp id fun ⟨c',h⟩=>?_⟩
       obtain ⟨i,hi,h⟩:=qz q b c' h
       rw [hq] at hi;cases hi
       exact ⟨c',h⟩)
     (fun i j b c c' hi hj h1 h2=>by
      by_cases a1: ∃y∈os,i=aZ d y.1
      ·obtain ⟨y,hy,rfl⟩:=a1
       rw [qO y hy] at h1
       by_cases a2: ∃y∈os,j=aZ d y.1
       ·obtain ⟨z,hz,rfl⟩:=a2
        rw [qO z hz] at h2
        rw [ho.inj _ _ _ _ _ h1 h2]
       ·obtain ⟨q,_,_,hq,_⟩:=FI j (hj.resolve_right a2)
        rw [qQ q j hq] at h2
        exact (ho.parted _ _ _ _ _ h2 h1).elim
      ·obtain ⟨q,_,_,hq,_⟩:=FI i (hi.resolve_right a1)
       rw [qQ q i hq] at h1
       by_cases a2: ∃y∈os,j=aZ d y.1
       ·obtain ⟨z,hz,rfl⟩:=a2
        rw [qO z hz] at h2
        exact (ho.parted _ _ _ _ _ h1 h2).elim
       ·obtain ⟨q2,_,_,hq2,_⟩:=FI j (hj.resolve_right a2)
        rw [qQ q2 j hq2] at h2
        have:=ho.inj1 _ _ _ _ _ h1 h2
        subst this
        rw [hq] at hq2;cases hq2;rfl)
     (fun j hj tP=>by
      have h8:=hm.m8
      by_cases h1: ∃y∈os,j=aZ d y.1
      ·obtain ⟨y,hy,rfl⟩:=h1;unfold aZ at tP;omega
      ·have h2:=hj.resolve_right h1
       obtain ⟨q,b,b0,hq,hb',hb0,ES⟩:=FI j h2
       rw [RS q j b hq hb',ES]
       rcases kinds hq hb' hb0 ES with ⟨cs,cs',rfl,rfl,RT⟩ | ⟨e,k,cs,cs',rfl,rfl,_⟩
       ·exact ⟨fun b1 hk=>by cases b1<;>exact hk,.inl (by rw [qQ q j hq,RT])⟩
       ·exact ⟨fun b1 hk=>by cases b1<;>exact hk,.inr ⟨_,_,_,rfl⟩⟩)
     hb.size ⟨hb.os,hb.tape,hb.out⟩ (by
      intro tr j b hj hb'
      by_cases h1: ∃y∈os,j=aZ d y.1
      ·obtain ⟨y,hy,rfl⟩:=h1
       rw [hH y hy] at hb'
       simp only [Option.some.injEq] at hb'
       subst hb'
       rw [qO y hy]
       have q:=ho.own y hy
       have hyo: ∃e k cs,y.2= .own e k cs:=by
        rcases List.mem_append.1 hy with h | h
        ·exact y8 r y h
        ·obtain ⟨bb,Vm,h⟩:=List.mem_flatMap.1 h
         cases bb with
         | box cs=>exact nU cs y h
         | own=>simp [wV] at h
       obtain ⟨e,k,cs,hown'⟩:=hyo
       rw [hown'] at q ⊢
       cases tV:β y.1 with
       | nil a=>rw [tV] at q;exact q
       | blk b1 c1=>
        rw [tV] at q
        obtain ⟨q0,cur,xs,r1,r2,r3,r4,r5,r6,r7⟩:=q
        exact ⟨q0,cur,xs,r1,r2,r3,r4,r5,r6,aY.Bz tT r7⟩
      ·have h2:=hj.resolve_right h1
       obtain ⟨q,b1,b0,hq,hbq,hb0,ES⟩:=FI j h2
       rw [RS q j b1 hq hbq] at hb'
       simp only [Option.some.injEq] at hb'
       subst hb'
       rw [qQ q j hq]
       have dz:=ho.aAZ q b1 (by have:=(List.getElem?_eq_some_iff.1 hq).1;rw [List.length_map];omega) hbq
       cases avP:dA q with
       | nil a=>rw [avP] at dz;cases b1<;>exact dz
       | blk b2 c2=>
        rw [avP] at dz
        cases b1 with
        | box cs=>
         obtain ⟨Im,T,h3,h4⟩:=dz
         refine ⟨Im,T,h3,?_⟩
         exact wZ tT hlen (fun q i b hi hb'=>⟨RS q i b hi hb',qQ q i hi⟩) (fun j e k n cs v=>hown j e k n cs v) cs _ (fun x hx=>by
          have:x∈os:=List.mem_append.2 (.inr (List.mem_flatMap.2 ⟨_,List.mem_of_getElem? hbq,hx⟩))
          exact ⟨hH x this,qO x this⟩) h4
        | own e k cs=>
         obtain ⟨q0,cur,xs,r1,r2,r3,r4,r5,r6,r7⟩:=dz
         exact ⟨q0,cur,xs,r1,r2,r3,r4,r5,r6,aY.Bz tT r7⟩)
    refine ⟨bp,nG.1,nG.2,?_⟩
    exact RQ tT hlen (fun q i b hi hb'=>⟨RS q i b hi hb',qQ q i hi⟩) (fun j e k n cs v=>hown j e k n cs v) r v (fun x hx=>by
     have:x∈os:=List.mem_append.2 (.inl hx)
     exact ⟨hH x this,qO x this⟩) ho.rep
   ·cases he
end
end Go.Proofs.YtimbfadnabfabaaGreatDoor.Pm
