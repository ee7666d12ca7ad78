/- The small machine: a call that is handed blocks. No program is named here. -/
import Derived.Test.YtimbfadnabfabaaGreatDoorPu
namespace Go.Proofs.YtimbfadnabfabaaGreatDoor.Pm
open Go.RowKit

section
theorem wD: ∀(l:List Nat),(dedup l).Nodup
 | []=>List.nodup_nil
 | y::l=>by
  unfold dedup
  split
  ·exact wD l
  ·rename_i h
   refine List.nodup_cons.2 ⟨fun hy=>h (List.any_eq_true.2 ⟨y,hy,by simp⟩),wD l⟩
theorem rQ: ∀{ids:List Nat} {i p:Nat},posOf ids i=some p→ids[p]?=some i
 | [],i,p,h=>by cases h
 | x::xs,i,p,h=>by
  unfold posOf at h
  split at h
  ·rename_i e;subst e;cases h;rfl
  ·split at h
   ·rename_i q hq;cases h;simpa using rQ hq
   ·cases h
theorem Sq: ∀{ids:List Nat},ids.Nodup→ ∀{i p:Nat},ids[p]?=some i→posOf ids i=some p
 | [],_,i,p,h=>by simp at h
 | x::xs,hn,i,p,h=>by
  obtain ⟨hx,hn⟩:=List.nodup_cons.1 hn
  unfold posOf
  cases p with
  | zero=>simp at h;subst h;simp
  | succ p=>
   have h:xs[p]?=some i:=by simpa using h
   have hne:x≠i:=fun e=>hx (e▸List.mem_of_getElem? h)
   rw [if_neg hne,Sq hn h]
theorem FD{H:Nat→cw}: ∀{ids:List Nat} {bs:List bM},gN H ids=some bs→bs.length=ids.length∧ ∀(p i:Nat),ids[p]?=some i→ ∃b,bs[p]?=some b∧(H i).b=some b
 | [],bs,h=>by simp only [gN,Option.some.injEq] at h;subst h;exact ⟨rfl,fun p i hp=>by simp at hp⟩
 | i::ids,bs,h=>by
  simp only [gN] at h
  split at h
  ·rename_i b l h1 h2
   simp only [Option.some.injEq] at h;subst h
   obtain ⟨h3,h4⟩:=FD h2
   refine ⟨by simp [h3],fun p j hp=>?_⟩
   cases p with
   | zero=>simp at hp;subst hp;exact ⟨b,rfl,h1⟩
   | succ p=>simpa using h4 p j (by simpa using hp)
  ·cases h
theorem ND: ∀(a b:eu) (H:Nat→cw),eJ H (a++b)=eJ (eJ H a) b
 | [],_,_=>rfl
 | x::a,b,H=>by simp only [List.cons_append,eJ];exact ND a b _
theorem Ao{fx:Bool}{H:Nat→cw}{all:List Nat}{d:Nat}: ∀(is:List Nat) (bs:List bM) (x:Nat×cw),x∈kn fx H all d is bs→x.1∈is
 | [],_,x,h=>by simp [kn] at h
 | i::is,[],x,h=>by simp [kn] at h
 | i::is,b::bs,x,h=>by
  simp only [kn,List.mem_cons] at h
  rcases h with rfl | h
  ·exact List.mem_cons_self
  ·exact List.mem_cons_of_mem _ (Ao is bs x h)
theorem Jq{fx:Bool}{H0' H:Nat→cw}{all:List Nat}{d:Nat}: ∀(is:List Nat) (bs:List bM) (H0':Nat→cw),is.Nodup→is.length≤bs.length→ ∀(p i:Nat) (b:bM),is[p]?=some i→bs[p]?=some b→eJ H0' (kn fx H all d is bs) i=⟨qJ fx H i,some (L_ fx all H d b)⟩
 | [],_,_,_,_,p,i,b,h,_=>by simp at h
 | i::is,[],_,_,hl,_,_,_,_,_=>by simp at hl
 | i::is,b::bs,H0',hn,hl,p,j,c,h1,h2=>by
  obtain ⟨hx,hn⟩:=List.nodup_cons.1 hn
  simp only [kn,eJ]
  cases p with
  | zero=>
   simp at h1 h2;subst h1;subst h2
   rw [jB _ _ _ (fun y hy e=>hx (by have:=Ao is bs y hy;rwa [e] at this)),aR]
  | succ p=>exact Jq (H0':=H0') is bs _ hn (by simpa using hl) p j c (by simpa using h1) (by simpa using h2)

variable {P : Program} {E : Nat → Prop} {m : List bM} {aQ φ : Nat → cr} {H : Nat → cw} {w0 w : World} {γ : dZ} {d : Nat} {fx : Bool}
def xX(φ:Nat→cr)(ids:List Nat)(p:Nat):cr:=match ids[p]? with | some i=>φ i | none=> .nil none
mutual
theorem ajg{X:Nat→Prop}{ids:List Nat}{bs:List bM}(hb:gN H ids=some bs): ∀(p:PV) (v:Value),cK X w (bk φ H) p v→cK X w (bk (xX φ ids) (H0 (bs.map (om ids H)))) (I4 ids H p) v
 | .d x,v,q=>q
 | .agg cs,v,⟨vs,e,q⟩=>⟨vs,e,uO hb cs _ q⟩
 | .bH cs,v,⟨vs,e,q⟩=>⟨vs,e,uO hb cs _ q⟩
 | .fn f cs,v,⟨vs,e,q⟩=>⟨vs,e,uO hb cs _ q⟩
 | .cD cs,v,q=>q
 | .nil,v,q=>q
 | .jv z n cs,v,q=>q
 | .un,v,q=>trivial
 | .r (.own ..),v,q=>trivial
 | .r (.ptr i g o),v,q=>by
  simp only [I4]
  split
  ·rename_i b p hl hp
   unfold look at hl
   split at hl
   ·rename_i hg
    obtain ⟨q1,_,q3⟩:=q
    obtain ⟨b1,c1,h1,h2⟩:=q3 hg (by rw [hl];rfl)
    refine ⟨q1,Nat.le_refl _,fun _ _=>⟨b1,c1,?_,h2⟩⟩
    unfold xX
    rw [rQ hp];exact h1
   ·cases hl
  ·trivial
 | .r (.aL i g l n),v,q=>by
  simp only [I4]
  split
  ·rename_i b p hl hp
   unfold look at hl
   split at hl
   ·rename_i hg
    obtain ⟨q1,_,q3⟩:=q
    refine ⟨q1,Nat.le_refl _,fun _ e k cs hbp=>?_⟩
    obtain ⟨b2,h2,h3⟩:=(FD hb).2 p i (rQ hp)
    have hown:(H i).b=some (.own e k cs):=by
     simp only [H0,List.getElem?_map,h2,Option.map_some,Option.some.injEq] at hbp
     rw [h3]
     cases b2 with
     | box=>simp [om] at hbp
     | own=>simp only [om] at hbp;rw [hbp]
    have:=q3 hg e k cs hown
    unfold xX
    rw [rQ hp];exact this
   ·cases hl
  ·trivial
theorem uO{X:Nat→Prop}{ids:List Nat}{bs:List bM}(hb:gN H ids=some bs): ∀(ps:List PV) (vs:List Value),aY X w (bk φ H) ps vs→aY X w (bk (xX φ ids) (H0 (bs.map (om ids H)))) (yh ids H ps) vs
 | [],vs,q=>q
 | p::ps,vs,⟨v,r,e,q1,q2⟩=>⟨v,r,e,ajg hb p v q1,uO hb ps r q2⟩
end
theorem aY.azj{X:Nat→Prop}{R R':Ref→Value→Prop}{w:World}{cs:List PD}{vs:List Value}(h:aY X w R (cs.map .d) vs):aY X w R' (cs.map .d) vs:=aY.CA (fun _ _ h=>h) h
mutual
theorem Sr{Y X':Nat→Prop}{w':World}{dz β bq:Nat→cr}{bL:List bM}{ids:List Nat}{H':Nat→cw}(uL: ∀b,b<w'.heap.size→ ¬Y b→ ¬X' b)(hlen:ids.length≤bL.length)
  (hat: ∀(p i:Nat) (b:bM),ids[p]?=some i→bL[p]?=some b→H' i=⟨qJ fx H i,some (L_ fx ids H d b)⟩∧bq i=dz p)
  (h2: ∀j e k n cs v,gO dz bL β (.own j e k n cs) v→H' (aZ d j)=⟨(H (aZ d j)).g+1,some (.own e k cs)⟩→bq (aZ d j)=β j→bk bq H' (.aL (aZ d j) ((H (aZ d j)).g+1) 0 n) v):
  ∀(p:PV) (v:Value),(∀x∈owns p,H' (aZ d x.1)=⟨(H (aZ d x.1)).g+1,some x.2⟩∧bq (aZ d x.1)=β x.1)→cK Y w' (gO dz bL β) p v→cK X' w' (bk bq H') (rM fx ids H d p) v
 | .d x,v,_,q=>dS.sub uL q
 | .agg cs,v,ho,⟨vs,e,q⟩=>⟨vs,e,yD uL hlen hat h2 cs _ ho q⟩
 | .bH cs,v,ho,⟨vs,e,q⟩=>⟨vs,e,yD uL hlen hat h2 cs _ ho q⟩
 | .fn f cs,v,ho,⟨vs,e,q⟩=>⟨vs,e,yD uL hlen hat h2 cs _ ho q⟩
 | .cD cs,v,_,⟨b,o,e,h3,h4,h5⟩=>⟨b,o,e,uL b h4 h3,h4,h5.sub uL h3 h4⟩
 | .nil,v,_,q=>q
 | .jv z n cs,v,_,q=>⟨dS.sub uL q.1,q.2⟩
 | .un,v,_,q=>trivial
 | .r (.ptr p g o),v,_,q=>by
  simp only [rM]
  split
  ·rename_i i hi
   obtain ⟨b,hb⟩: ∃b,bL[p]?=some b:=by
    have:=(List.getElem?_eq_some_iff.1 hi).1
    exact ⟨_,List.getElem?_eq_getElem (by omega)⟩
   obtain ⟨a1,a2⟩:=hat p i b hi hb
   have q:bk dz (H0 bL) (.ptr p g o) v:=q
   obtain ⟨q1,q2,q3⟩:=q
   have hg0:g=0:=Nat.le_zero.1 q2
   obtain ⟨b1,c1,h1,h2'⟩:=q3 (by rw [hg0];rfl) (by simp only [H0,hb];rfl)
   refine ⟨q1,by rw [a1];exact Nat.le_refl _,fun _ _=>⟨b1,c1,by rw [a2];exact h1,h2'⟩⟩
  ·trivial
 | .r (.aL p g l n),v,_,q=>by
  simp only [rM]
  split
  ·rename_i i hi
   obtain ⟨b,hb⟩: ∃b,bL[p]?=some b:=by
    have:=(List.getElem?_eq_some_iff.1 hi).1
    exact ⟨_,List.getElem?_eq_getElem (by omega)⟩
   obtain ⟨a1,a2⟩:=hat p i b hi hb
   have q:bk dz (H0 bL) (.aL p g l n) v:=q
   obtain ⟨q1,q2,q3⟩:=q
   have hg0:g=0:=Nat.le_zero.1 q2
   refine ⟨q1,by rw [a1];exact Nat.le_refl _,fun _ e k cs PA=>?_⟩
   rw [a1] at PA
   have hbe:b= .own e k cs:=by
    simp only [Option.some.injEq] at PA
    cases b with
    | box=>simp [L_] at PA
    | own=>simp only [L_] at PA;exact PA
   subst hbe
   have:=q3 (by rw [hg0];rfl) e k cs (by simp only [H0,hb])
   rw [a2];exact this
  ·trivial
 | .r (.own j e k n cs),v,ho,q=>by
  obtain ⟨h3,h4⟩:=ho (j,.own e k cs) (by simp [owns])
  exact h2 j e k n cs v q h3 h4
theorem yD{Y X':Nat→Prop}{w':World}{dz β bq:Nat→cr}{bL:List bM}{ids:List Nat}{H':Nat→cw}(uL: ∀b,b<w'.heap.size→ ¬Y b→ ¬X' b)(hlen:ids.length≤bL.length)
  (hat: ∀(p i:Nat) (b:bM),ids[p]?=some i→bL[p]?=some b→H' i=⟨qJ fx H i,some (L_ fx ids H d b)⟩∧bq i=dz p)
  (h2: ∀j e k n cs v,gO dz bL β (.own j e k n cs) v→H' (aZ d j)=⟨(H (aZ d j)).g+1,some (.own e k cs)⟩→bq (aZ d j)=β j→bk bq H' (.aL (aZ d j) ((H (aZ d j)).g+1) 0 n) v):
  ∀(ps:List PV) (vs:List Value),(∀x∈eC ps,H' (aZ d x.1)=⟨(H (aZ d x.1)).g+1,some x.2⟩∧bq (aZ d x.1)=β x.1)→aY Y w' (gO dz bL β) ps vs→aY X' w' (bk bq H') (Pp fx ids H d ps) vs
 | [],vs,_,q=>q
 | p::ps,vs,ho,⟨v,r,e,q1,q2⟩=>⟨v,r,e,Sr uL hlen hat h2 p v (fun x hx=>ho x (by simp [eC,hx])) q1,yD uL hlen hat h2 ps r (fun x hx=>ho x (by simp [eC,hx])) q2⟩
end
theorem NF: ∀{ids:List Nat} {bL:List bM} {q i:Nat} {e k e' k':Nat} {cs cs':List PD},iz H ids bL=true→ids[q]?=some i→bL[q]?=some (.own e' k' cs')→(H i).b=some (.own e k cs)→cs'.length=cs.length
 | [],_,q,_,_,_,_,_,_,_,_,h,_,_=>by simp at h
 | _::_,[],q,_,_,_,_,_,_,_,_,_,h,_=>by simp at h
 | x::is,b::bs,0,i,_,_,_,_,cs,cs',hs,h1,h2,h3=>by
  simp at h1 h2;subst h1;subst h2
  simp only [iz,h3,Bool.and_eq_true] at hs
  exact of_decide_eq_true hs.1
 | x::is,b::bs,q+1,i,_,_,_,_,cs,cs',hs,h1,h2,h3=>by
  simp only [iz,Bool.and_eq_true] at hs
  exact NF hs.2 (by simpa using h1) (by simpa using h2) h3
theorem Ss(hm:Mem E m aQ w0 φ H w)(k5:oo P γ w0 aQ){f:Nat}{args:List PV}{vs:List Value}{p:PV}{aD:eu}(hargs:aY (cW E φ) w (bk φ H) args vs)(he:nB γ H d f args=some (p,aD)){x:Sem Next}
  (hx:x.run P w=(callFunc f vs.toArray).run P w):Does P E m aQ w0 φ H w p aD x:=by
 unfold nB at he
 have hnd:(fQ H args).Nodup:=wD _
 generalize fQ H args=ids at he hnd
 split at he
 ·cases he
 ·rename_i bs nE
  split at he
  ·cases he
  ·rename_i r bL hr
   split at he
   ·rename_i Jn
    simp only [Option.some.injEq,Prod.mk.injEq] at he
    obtain ⟨rfl,rfl⟩:=he
    simp only [Bool.and_eq_true,List.all_eq_true,decide_eq_true_eq,Bool.not_eq_true'] at Jn
    obtain ⟨⟨⟨kZ,hl8⟩,Wc⟩,hj⟩:=Jn
    obtain ⟨hbl,hbg⟩:=FD nE
    have hlen:ids.length≤bL.length:=by
     unfold Ma at kZ
     split at kZ
     ·rename_i h;have:=Nat.eq_of_beq_eq_true h;omega
     ·have:=of_decide_eq_true kZ;omega
    have aji:xW ids bL=true→iz H ids bL=true:=fun h=>by unfold Ma at kZ;rwa [if_pos h] at kZ
    have FB:xW ids bL=true→bL.length=(bs.map (om ids H)).length+1:=fun h=>by have:=Nat.eq_of_beq_eq_true h;rw [List.length_map];omega
    generalize xW ids bL=fx at aji FB ⊢
    obtain ⟨ajf,Jo⟩:=k5 f _ _ r bL hr
    have hE: ∀b,cW E φ b→b<w.heap.size:=by
     intro b hb
     rcases hb with h | ⟨i,c,h⟩
     ·exact Nat.lt_of_lt_of_le (hm.ext b h) hm.sz
     ·exact (hm.lt i b c h).1
    have rz: ∀q b c,xX φ ids q= .blk b c→ ∃i,ids[q]?=some i∧φ i= .blk b c:=by
     intro q b c h
     unfold xX at h
     split at h
     ·rename_i i hi;exact ⟨i,hi,h⟩
     ·cases h
    have uM:Passed (cW E φ) w (xX φ ids) (bs.map (om ids H)):=by
     refine ⟨by simp;omega,fun q b c h=>?_,fun i j b c c' h1 h2=>?_,fun q b h=>?_⟩
     ·obtain ⟨i,hi,h⟩:=rz q b c h
      have:=(List.getElem?_eq_some_iff.1 hi).1
      exact ⟨by simp;omega,.inr ⟨i,c,h⟩⟩
     ·obtain ⟨a,ha,h1⟩:=rz i b c h1
      obtain ⟨a2,ha2,h2⟩:=rz j b c' h2
      have:=hm.inj a a2 b c c' h1 h2
      subst this
      exact (List.getElem?_inj (List.getElem?_eq_some_iff.1 ha).1 hnd).1 (ha.trans ha2.symm)
     ·simp only [List.getElem?_map,Option.map_eq_some_iff] at h
      obtain ⟨b0,hb0,rfl⟩:=h
      have hql:q<ids.length:=by have:=(List.getElem?_eq_some_iff.1 hb0).1;omega
      have hi:ids[q]?=some ids[q]:=List.getElem?_eq_getElem hql
      obtain ⟨b1,hb1,FE⟩:=hbg q _ hi
      rw [hb0] at hb1;cases hb1
      have dy:=hm.rep _ _ FE
      have d_:xX φ ids q=φ ids[q]:=by unfold xX;rw [hi]
      rw [d_]
      cases axH:φ ids[q] with
      | nil a=>rw [axH] at dy;cases b0<;>exact dy
      | blk b c=>
       rw [axH] at dy
       cases b0 with
       | box cs=>
        obtain ⟨Jp,T,h1,h2⟩:=dy
        exact ⟨Jp,T,h1,uO nE cs _ h2⟩
       | own e k cs=>
        obtain ⟨q0,cur,xs,r1,r2,r3,r4,r5,r6,r7⟩:=dy
        exact ⟨q0,cur,xs,r1,r2,r3,r4,r5,r6,r7.azj⟩
    have hc:=Jo (cW E φ) w (xX φ ids) vs (hm.later.sub fun q b c h=>by obtain ⟨i,_,h⟩:=rz q b c h;exact ⟨i,c,h⟩) hE uM (uO nE args vs hargs)
    refine .inr (.inr ⟨f,vs.toArray,by rw [hx];exact ajf _ _,hc.mono ?_⟩)
    rintro e w' ⟨v,dz,β,rfl,hb,ho⟩
    refine ⟨v,rfl,?_⟩
    have Wd: ∀a b,aZ d a=aZ d b→a=b:=fun a b h=>by unfold aZ at h;omega
    let os:=cE r bL
    let I:Nat→Prop:=fun i=>i∈ids∨ ∃y∈os,i=aZ d y.1
    have axI: ∀y∈os,aZ d y.1∉ids:=fun y hy ajj=>by
     have:=(hj y hy).2
     rw [List.any_eq_true.2 ⟨_,ajj,by simp⟩] at this
     cases this
    let H':=eJ H (kn fx H ids d ids bL++os.map fun x=>nw H (aZ d x.1) x.2)
    have hH':H'=eJ (eJ H (kn fx H ids d ids bL)) (os.map fun x=>nw H (aZ d x.1) x.2):=ND _ _ _
    have hH: ∀y∈os,H' (aZ d y.1)=⟨(H (aZ d y.1)).g+1,some y.2⟩:=fun y hy=>by
     rw [hH']
     exact Jl os (aZ d) (fun y=>⟨(H (aZ d y.1)).g+1,some y.2⟩) _ y (fun _ _ _ _ h=>Wd _ _ h) Wc hy
    have axJ: ∀i,(¬ ∃y∈os,i=aZ d y.1)→H' i=eJ H (kn fx H ids d ids bL) i:=fun i hi=>by
     rw [hH']
     exact jB _ _ _ (fun y hy e=>by
      obtain ⟨z,hz,rfl⟩:=List.mem_map.1 hy
      exact hi ⟨z,hz,e.symm⟩)
    have Su: ∀(q i:Nat) (b:bM),ids[q]?=some i→bL[q]?=some b→H' i=⟨qJ fx H i,some (L_ fx ids H d b)⟩:=fun q i b hi hb'=>by
     rw [axJ i (fun ⟨y,hy,e⟩=>axI y hy (e▸List.mem_of_getElem? hi))]
     exact Jq (H0':=H) ids bL H hnd hlen q i b hi hb'
    have aCt: ∀i,¬I i→H' i=H i:=fun i hi=>by
     rw [axJ i (fun h=>hi (.inr h))]
     exact jB _ _ _ (fun y hy e=>hi (.inl (e▸Ao ids bL y hy)))
    let bq:Nat→cr:=fun i=>if os.any (fun y=>Nat.beq i (aZ d y.1)) then β (i-8*d-8) else match posOf ids i with | some q=>dz q | none=>φ i
    have rP: ∀y∈os,bq (aZ d y.1)=β y.1:=fun y hy=>by
     show (if _ then _ else _)=_
     rw [if_pos (List.any_eq_true.2 ⟨y,hy,by simp⟩),Sn]
    have ZU: ∀i,(¬ ∃y∈os,i=aZ d y.1)→ ¬(os.any (fun y=>Nat.beq i (aZ d y.1))=true):=fun i hi h=>by
     obtain ⟨y,hy,e⟩:=List.any_eq_true.1 h
     exact hi ⟨y,hy,by simpa using e⟩
    have rR: ∀q i,ids[q]?=some i→bq i=dz q:=fun q i hi=>by
     show (if _ then _ else _)=_
     rw [if_neg (ZU i (fun ⟨y,hy,e⟩=>axI y hy (e▸List.mem_of_getElem? hi))),Sq hnd hi]
    have ajk: ∀i,¬I i→bq i=φ i:=fun i hi=>by
     show (if _ then _ else _)=_
     rw [if_neg (ZU i (fun h=>hi (.inr h)))]
     cases hp:posOf ids i with
     | none=>rfl
     | some q=>exact absurd (.inl (List.mem_of_getElem? (rQ hp))) hi
    have Gy: ∀i,i∈ids→ ∃q b b0,ids[q]?=some i∧bL[q]?=some b∧(bs.map (om ids H))[q]?=some (om ids H b0)∧(H i).b=some b0:=fun i hi=>by
     obtain ⟨q,hq,rfl⟩:=List.getElem_of_mem hi
     obtain ⟨b0,h1,h2⟩:=hbg q _ (List.getElem?_eq_getElem hq)
     exact ⟨q,bL[q]'(by omega),b0,List.getElem?_eq_getElem hq,List.getElem?_eq_getElem (by omega),(by rw [List.getElem?_map,h1];rfl),h2⟩
    have uL: ∀b,b<w'.heap.size→ ¬Yo (cW E φ) dz β b→ ¬cW E bq b:=by
     intro b _ hn Fq
     rcases Fq with h | ⟨i,c,h⟩
     ·exact hn (.inl (.inl h))
     ·by_cases h1: ∃y∈os,i=aZ d y.1
      ·obtain ⟨y,hy,rfl⟩:=h1
       rw [rP y hy] at h
       exact hn (.inr (.inr ⟨_,_,h⟩))
      ·by_cases h2:i∈ids
       ·obtain ⟨q,_,_,hq,_⟩:=Gy i h2
        rw [rR q i hq] at h
        exact hn (.inr (.inl ⟨_,_,h⟩))
       ·rw [ajk i (fun h=>h.elim h2 h1)] at h
        exact hn (.inl (.inr ⟨i,c,h⟩))
    have hown: ∀{bq:Nat→cr} {H':Nat→cw} (j:Nat) (e:TypeId) (k n:Nat) (cs:List PD) (v:Value),gO dz bL β (.own j e k n cs) v→H' (aZ d j)=⟨(H (aZ d j)).g+1,some (.own e k cs)⟩→bq (aZ d j)=β j→bk bq H' (.aL (aZ d j) ((H (aZ d j)).g+1) 0 n) v:=by
     intro bq H' j e k n cs v' kB PB Du
     obtain ⟨hk,hlen,hv'⟩:=kB
     cases uN:β j with
     | nil a=>
      rw [uN] at hv' Du
      obtain ⟨rfl,rfl⟩:=hv'
      have hn:n=0:=by
       rw [List.length_nil] at hlen
       rcases Nat.mul_eq_zero.1 hlen.symm with h | h
       ·exact h
       ·omega
      subst hn
      have:=pR (H:=H') (i:=aZ d j) (e:=e) Du (by rw [PB]) hk
      rw [PB] at this
      exact this
     | blk b c=>
      rw [uN] at hv' Du
      obtain ⟨rfl,hn⟩:=hv'
      have:=rq (H:=H') (i:=aZ d j) (e:=e) (cs:=cs) Du (by rw [PB]) hk hlen hn
      rw [PB] at this
      exact this
    have kinds: ∀{i q:Nat} {b b0:bM},ids[q]?=some i→bL[q]?=some b→(bs.map (om ids H))[q]?=some (om ids H b0)→(H i).b=some b0→
      (∃cs cs',b0= .box cs∧b= .box cs'∧dz q=φ i)∨(∃e k cs cs',b0= .own e k cs∧b= .own e k cs'∧(fx=true→dz q=φ i∧cs.length=cs'.length)):=by
     intro i q b b0 hi hb' hb0 FE
     obtain ⟨k1,k2⟩:=ho.kind q _ hb0
     rw [hb'] at k1
     cases b0 with
     | box cs=>
      cases b with
      | box cs'=>
       refine .inl ⟨cs,cs',rfl,rfl,?_⟩
       rw [k2 (.inl rfl)];unfold xX;rw [hi]
      | own=>exact k1.elim
     | own e k cs=>
      cases b with
      | box=>exact k1.elim
      | own e' k' cs'=>
       obtain ⟨rfl,rfl⟩:=k1
       refine .inr ⟨_,_,cs,cs',rfl,rfl,fun hf=>⟨?_,?_⟩⟩
       ·rw [k2 (.inr (FB hf))];unfold xX;rw [hi]
       ·exact (NF (aji hf) hi hb' FE).symm
    have oc:=hm.upd (bq:=bq) (w':=w') (H':=H') I (fun j hj=>⟨ajk j hj,aCt j hj⟩)
     (fun j hj=>by
      by_cases h1: ∃y∈os,j=aZ d y.1
      ·obtain ⟨y,hy,rfl⟩:=h1;rw [hH y hy];exact .inl (Nat.lt_succ_self _)
      ·have h2:=hj.resolve_right h1
       obtain ⟨q,b,b0,hq,hb',hb0,FE⟩:=Gy j h2
       rw [Su q j b hq hb']
       rcases kinds hq hb' hb0 FE with ⟨cs,cs',rfl,rfl,Sv⟩ | ⟨e,k,cs,cs',rfl,rfl,yE⟩
       ·exact .inr ⟨by rw [rR q j hq,Sv],by show qJ fx H j=_;unfold qJ;rw [FE];cases fx<;>rfl,by rw [FE];trivial⟩
       ·cases hf:fx with
        | false=>exact .inl (by show _<qJ false H j;unfold qJ;rw [FE];exact Nat.lt_succ_self _)
        | true=>
         obtain ⟨Sv,hle⟩:=yE hf
         exact .inr ⟨by rw [rR q j hq,Sv],by show qJ true H j=_;unfold qJ;rfl,by rw [FE];exact ⟨rfl,rfl,hle⟩⟩)
     (fun b hb' hne=>hb.blk b hb' (fun q c h=>by
      obtain ⟨i,hi,h⟩:=rz q b c h
      exact hne i c (.inl (List.mem_of_getElem? hi)) h))
     (fun j b c hj hp=>by
      by_cases h1: ∃y∈os,j=aZ d y.1
      ·obtain ⟨y,hy,rfl⟩:=h1;rw [rP y hy] at hp;have:=ho.new _ _ _ hp;exact ⟨this.2,.inl this.1⟩
      ·have h2:=hj.resolve_right h1
       obtain ⟨q,_,_,hq,_⟩:=Gy j h2
       rw [rR q j hq] at hp
       obtain ⟨_,h4,h5⟩:=ho.dom _ _ _ hp
       refine ⟨h4,h5.imp id fun ⟨c',h⟩=>?_⟩
       obtain ⟨i,hi,h⟩:=rz q b c' h
       rw [hq] at hi;cases hi
       exact ⟨c',h⟩)
     (fun i j b c c' hi hj h1 h2=>by
      by_cases a1: ∃y∈os,i=aZ d y.1
      ·obtain ⟨y,hy,rfl⟩:=a1
       rw [rP y hy] at h1
       by_cases a2: ∃y∈os,j=aZ d y.1
       ·obtain ⟨z,hz,rfl⟩:=a2
        rw [rP z hz] at h2
        rw [ho.inj _ _ _ _ _ h1 h2]
       ·obtain ⟨q,_,_,hq,_⟩:=Gy j (hj.resolve_right a2)
        rw [rR q j hq] at h2
        exact (ho.parted _ _ _ _ _ h2 h1).elim
      ·obtain ⟨q,_,_,hq,_⟩:=Gy i (hi.resolve_right a1)
       rw [rR q i hq] at h1
       by_cases a2: ∃y∈os,j=aZ d y.1
       ·obtain ⟨z,hz,rfl⟩:=a2
        rw [rP z hz] at h2
        exact (ho.parted _ _ _ _ _ h1 h2).elim
       ·obtain ⟨q2,_,_,hq2,_⟩:=Gy j (hj.resolve_right a2)
        rw [rR q2 j hq2] at h2
        have:=ho.inj1 _ _ _ _ _ h1 h2
        subst this
        rw [hq] at hq2;cases hq2;rfl)
     (fun j hj uH=>by
      have h8:=hm.m8
      by_cases h1: ∃y∈os,j=aZ d y.1
      ·obtain ⟨y,hy,rfl⟩:=h1;unfold aZ at uH;omega
      ·have h2:=hj.resolve_right h1
       obtain ⟨q,b,b0,hq,hb',hb0,FE⟩:=Gy j h2
       rw [Su q j b hq hb',FE]
       rcases kinds hq hb' hb0 FE with ⟨cs,cs',rfl,rfl,Sv⟩ | ⟨e,k,cs,cs',rfl,rfl,_⟩
       ·exact ⟨fun b1 hk=>by cases b1<;>exact hk,.inl (by rw [rR q j hq,Sv])⟩
       ·exact ⟨fun b1 hk=>by cases b1<;>exact hk,.inr ⟨_,_,_,rfl⟩⟩)
     hb.size ⟨hb.os,hb.tape,hb.out⟩ (by
      intro tr j b hj hb'
      by_cases h1: ∃y∈os,j=aZ d y.1
      ·obtain ⟨y,hy,rfl⟩:=h1
       rw [hH y hy] at hb'
       simp only [Option.some.injEq] at hb'
       subst hb'
       rw [rP y hy]
       have q:=ho.own y hy
       have hyo: ∃e k cs,y.2= .own e k cs:=by
        rcases List.mem_append.1 hy with h | h
        ·exact Am r y h
        ·obtain ⟨bb,VT,h⟩:=List.mem_flatMap.1 h
         cases bb with
         | box cs=>exact ot cs y h
         | own=>simp [yz] at h
       obtain ⟨e,k,cs,hown'⟩:=hyo
       rw [hown'] at q ⊢
       cases uN:β y.1 with
       | nil a=>rw [uN] at q;exact q
       | blk b1 c1=>
        rw [uN] at q
        obtain ⟨q0,cur,xs,r1,r2,r3,r4,r5,r6,r7⟩:=q
        exact ⟨q0,cur,xs,r1,r2,r3,r4,r5,r6,aY.CA uL r7⟩
      ·have h2:=hj.resolve_right h1
       obtain ⟨q,b1,b0,hq,hbq,hb0,FE⟩:=Gy j h2
       rw [Su q j b1 hq hbq] at hb'
       simp only [Option.some.injEq] at hb'
       subst hb'
       rw [rR q j hq]
       have dy:=ho.aCg q b1 (by have:=(List.getElem?_eq_some_iff.1 hq).1;rw [List.length_map];omega) hbq
       cases axK:dz q with
       | nil a=>rw [axK] at dy;cases b1<;>exact dy
       | blk b2 c2=>
        rw [axK] at dy
        cases b1 with
        | box cs=>
         obtain ⟨Jp,T,h3,h4⟩:=dy
         refine ⟨Jp,T,h3,?_⟩
         exact yD uL hlen (fun q i b hi hb'=>⟨Su q i b hi hb',rR q i hi⟩) (fun j e k n cs v=>hown j e k n cs v) cs _ (fun x hx=>by
          have:x∈os:=List.mem_append.2 (.inr (List.mem_flatMap.2 ⟨_,List.mem_of_getElem? hbq,hx⟩))
          exact ⟨hH x this,rP x this⟩) h4
        | own e k cs=>
         obtain ⟨q0,cur,xs,r1,r2,r3,r4,r5,r6,r7⟩:=dy
         exact ⟨q0,cur,xs,r1,r2,r3,r4,r5,r6,aY.CA uL r7⟩)
    refine ⟨bq,oc.1,oc.2,?_⟩
    exact Sr uL hlen (fun q i b hi hb'=>⟨Su q i b hi hb',rR q i hi⟩) (fun j e k n cs v=>hown j e k n cs v) r v (fun x hx=>by
     have:x∈os:=List.mem_append.2 (.inl hx)
     exact ⟨hH x this,rP x this⟩) ho.rep
   ·cases he
end
end Go.Proofs.YtimbfadnabfabaaGreatDoor.Pm
