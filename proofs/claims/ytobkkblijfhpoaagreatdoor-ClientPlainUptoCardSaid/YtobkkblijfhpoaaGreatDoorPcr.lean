/- The small machine: a call that is handed blocks. No program is named here. -/
import Derived.Test.YtobkkblijfhpoaaGreatDoorPu
namespace Go.Proofs.YtobkkblijfhpoaaGreatDoor.Pm
open Go.RowKit

section
theorem vQ: ∀(l:List Nat),(dedup l).Nodup
 | []=>List.nodup_nil
 | y::l=>by
  unfold dedup
  split
  ·exact vQ l
  ·rename_i h
   refine List.nodup_cons.2 ⟨fun hy=>h (List.any_eq_true.2 ⟨y,hy,by simp⟩),vQ l⟩
theorem qA: ∀{ids:List Nat} {i p:Nat},posOf ids i=some p→ids[p]?=some i
 | [],i,p,h=>by cases h
 | x::xs,i,p,h=>by
  unfold posOf at h
  split at h
  ·rename_i e;subst e;cases h;rfl
  ·split at h
   ·rename_i q hq;cases h;simpa using qA hq
   ·cases h
theorem S4: ∀{ids:List Nat},ids.Nodup→ ∀{i p:Nat},ids[p]?=some i→posOf ids i=some p
 | [],_,i,p,h=>by simp at h
 | x::xs,hn,i,p,h=>by
  obtain ⟨hx,hn⟩:=List.nodup_cons.1 hn
  unfold posOf
  cases p with
  | zero=>simp at h;subst h;simp
  | succ p=>
   have h:xs[p]?=some i:=by simpa using h
   have hne:x≠i:=fun e=>hx (e▸List.mem_of_getElem? h)
   rw [if_neg hne,S4 hn h]
theorem GD{H:Nat→cL}: ∀{ids:List Nat} {bs:List cj},gQ H ids=some bs→bs.length=ids.length∧ ∀(p i:Nat),ids[p]?=some i→ ∃b,bs[p]?=some b∧(H i).b=some b
 | [],bs,h=>by simp only [gQ,Option.some.injEq] at h;subst h;exact ⟨rfl,fun p i hp=>by simp at hp⟩
 | i::ids,bs,h=>by
  simp only [gQ] at h
  split at h
  ·rename_i b l h1 h2
   simp only [Option.some.injEq] at h;subst h
   obtain ⟨h3,h4⟩:=GD h2
   refine ⟨by simp [h3],fun p j hp=>?_⟩
   cases p with
   | zero=>simp at hp;subst hp;exact ⟨b,rfl,h1⟩
   | succ p=>simpa using h4 p j (by simpa using hp)
  ·cases h
theorem OC: ∀(a b:eo) (H:Nat→cL),eO H (a++b)=eO (eO H a) b
 | [],_,_=>rfl
 | x::a,b,H=>by simp only [List.cons_append,eO];exact OC a b _
theorem Av{fx:Bool}{H:Nat→cL}{all:List Nat}{d:Nat}: ∀(is:List Nat) (bs:List cj) (x:Nat×cL),x∈lB fx H all d is bs→x.1∈is
 | [],_,x,h=>by simp [lB] at h
 | i::is,[],x,h=>by simp [lB] at h
 | i::is,b::bs,x,h=>by
  simp only [lB,List.mem_cons] at h
  rcases h with rfl | h
  ·exact List.mem_cons_self
  ·exact List.mem_cons_of_mem _ (Av is bs x h)
theorem Ke{fx:Bool}{H0' H:Nat→cL}{all:List Nat}{d:Nat}: ∀(is:List Nat) (bs:List cj) (H0':Nat→cL),is.Nodup→is.length≤bs.length→ ∀(p i:Nat) (b:cj),is[p]?=some i→bs[p]?=some b→eO H0' (lB fx H all d is bs) i=⟨pQ fx H i,some (Na fx all H d b)⟩
 | [],_,_,_,_,p,i,b,h,_=>by simp at h
 | i::is,[],_,_,hl,_,_,_,_,_=>by simp at hl
 | i::is,b::bs,H0',hn,hl,p,j,c,h1,h2=>by
  obtain ⟨hx,hn⟩:=List.nodup_cons.1 hn
  simp only [lB,eO]
  cases p with
  | zero=>
   simp at h1 h2;subst h1;subst h2
   rw [jh _ _ _ (fun y hy e=>hx (by have:=Av is bs y hy;rwa [e] at this)),aQ]
  | succ p=>exact Ke (H0':=H0') is bs _ hn (by simpa using hl) p j c (by simpa using h1) (by simpa using h2)

variable {P : Program} {E : Nat → Prop} {m : List cj} {aS φ : Nat → cJ} {H : Nat → cL} {w0 w : World} {γ : cX} {d : Nat} {fx : Bool}
def xH(φ:Nat→cJ)(ids:List Nat)(p:Nat):cJ:=match ids[p]? with | some i=>φ i | none=> .nil none
mutual
theorem ajF{X:Nat→Prop}{ids:List Nat}{bs:List cj}(hb:gQ H ids=some bs): ∀(p:PV) (v:Value),cT X w (bu φ H) p v→cT X w (bu (xH φ ids) (H0 (bs.map (pR ids H)))) (JQ ids H p) v
 | .d x,v,q=>q
 | .agg cs,v,⟨vs,e,q⟩=>⟨vs,e,um hb cs _ q⟩
 | .bZ cs,v,⟨vs,e,q⟩=>⟨vs,e,um hb cs _ q⟩
 | .fn f cs,v,⟨vs,e,q⟩=>⟨vs,e,um hb cs _ q⟩
 | .cS cs,v,q=>q
 | .nil,v,q=>q
 | .iG z n cs,v,q=>q
 | .un,v,q=>trivial
 | .r (.own ..),v,q=>trivial
 | .r (.ptr i g o),v,q=>by
  simp only [JQ]
  split
  ·rename_i b p hl hp
   unfold look at hl
   split at hl
   ·rename_i hg
    obtain ⟨q1,_,q3⟩:=q
    obtain ⟨b1,c1,h1,h2⟩:=q3 hg (by rw [hl];rfl)
    refine ⟨q1,Nat.le_refl _,fun _ _=>⟨b1,c1,?_,h2⟩⟩
    unfold xH
    rw [qA hp];exact h1
   ·cases hl
  ·trivial
 | .r (.aI i g l n),v,q=>by
  simp only [JQ]
  split
  ·rename_i b p hl hp
   unfold look at hl
   split at hl
   ·rename_i hg
    obtain ⟨q1,_,q3⟩:=q
    refine ⟨q1,Nat.le_refl _,fun _ e k cs hbp=>?_⟩
    obtain ⟨b2,h2,h3⟩:=(GD hb).2 p i (qA hp)
    have hown:(H i).b=some (.own e k cs):=by
     simp only [H0,List.getElem?_map,h2,Option.map_some,Option.some.injEq] at hbp
     rw [h3]
     cases b2 with
     | box=>simp [pR] at hbp
     | own=>simp only [pR] at hbp;rw [hbp]
    have:=q3 hg e k cs hown
    unfold xH
    rw [qA hp];exact this
   ·cases hl
  ·trivial
theorem um{X:Nat→Prop}{ids:List Nat}{bs:List cj}(hb:gQ H ids=some bs): ∀(ps:List PV) (vs:List Value),aZ X w (bu φ H) ps vs→aZ X w (bu (xH φ ids) (H0 (bs.map (pR ids H)))) (xO ids H ps) vs
 | [],vs,q=>q
 | p::ps,vs,⟨v,r,e,q1,q2⟩=>⟨v,r,e,ajF hb p v q1,um hb ps r q2⟩
end
theorem aZ.axg{X:Nat→Prop}{R R':Ref→Value→Prop}{w:World}{cs:List PD}{vs:List Value}(h:aZ X w R (cs.map .d) vs):aZ X w R' (cs.map .d) vs:=aZ.CG (fun _ _ h=>h) h
mutual
theorem S5{Y X':Nat→Prop}{w':World}{dz β bK:Nat→cJ}{b_:List cj}{ids:List Nat}{H':Nat→cL}(uj: ∀b,b<w'.heap.size→ ¬Y b→ ¬X' b)(hlen:ids.length≤b_.length)
  (hat: ∀(p i:Nat) (b:cj),ids[p]?=some i→b_[p]?=some b→H' i=⟨pQ fx H i,some (Na fx ids H d b)⟩∧bK i=dz p)
  (h2: ∀j e k n cs v,gu dz b_ β (.own j e k n cs) v→H' (bf d j)=⟨(H (bf d j)).g+1,some (.own e k cs)⟩→bK (bf d j)=β j→bu bK H' (.aI (bf d j) ((H (bf d j)).g+1) 0 n) v):
  ∀(p:PV) (v:Value),(∀x∈owns p,H' (bf d x.1)=⟨(H (bf d x.1)).g+1,some x.2⟩∧bK (bf d x.1)=β x.1)→cT Y w' (gu dz b_ β) p v→cT X' w' (bu bK H') (tF fx ids H d p) v
 | .d x,v,_,q=>dQ.sub uj q
 | .agg cs,v,ho,⟨vs,e,q⟩=>⟨vs,e,ya uj hlen hat h2 cs _ ho q⟩
 | .bZ cs,v,ho,⟨vs,e,q⟩=>⟨vs,e,ya uj hlen hat h2 cs _ ho q⟩
 | .fn f cs,v,ho,⟨vs,e,q⟩=>⟨vs,e,ya uj hlen hat h2 cs _ ho q⟩
 | .cS cs,v,_,⟨b,o,e,h3,h4,h5⟩=>⟨b,o,e,uj b h4 h3,h4,h5.sub uj h3 h4⟩
 | .nil,v,_,q=>q
 | .iG z n cs,v,_,q=>⟨dQ.sub uj q.1,q.2⟩
 | .un,v,_,q=>trivial
 | .r (.ptr p g o),v,_,q=>by
  simp only [tF]
  split
  ·rename_i i hi
   obtain ⟨b,hb⟩: ∃b,b_[p]?=some b:=by
    have:=(List.getElem?_eq_some_iff.1 hi).1
    exact ⟨_,List.getElem?_eq_getElem (by omega)⟩
   obtain ⟨a1,a2⟩:=hat p i b hi hb
   have q:bu dz (H0 b_) (.ptr p g o) v:=q
   obtain ⟨q1,q2,q3⟩:=q
   have hg0:g=0:=Nat.le_zero.1 q2
   obtain ⟨b1,c1,h1,h2'⟩:=q3 (by rw [hg0];rfl) (by simp only [H0,hb];rfl)
   refine ⟨q1,by rw [a1];exact Nat.le_refl _,fun _ _=>⟨b1,c1,by rw [a2];exact h1,h2'⟩⟩
  ·trivial
 | .r (.aI p g l n),v,_,q=>by
  simp only [tF]
  split
  ·rename_i i hi
   obtain ⟨b,hb⟩: ∃b,b_[p]?=some b:=by
    have:=(List.getElem?_eq_some_iff.1 hi).1
    exact ⟨_,List.getElem?_eq_getElem (by omega)⟩
   obtain ⟨a1,a2⟩:=hat p i b hi hb
   have q:bu dz (H0 b_) (.aI p g l n) v:=q
   obtain ⟨q1,q2,q3⟩:=q
   have hg0:g=0:=Nat.le_zero.1 q2
   refine ⟨q1,by rw [a1];exact Nat.le_refl _,fun _ e k cs Qn=>?_⟩
   rw [a1] at Qn
   have hbe:b= .own e k cs:=by
    simp only [Option.some.injEq] at Qn
    cases b with
    | box=>simp [Na] at Qn
    | own=>simp only [Na] at Qn;exact Qn
   subst hbe
   have:=q3 (by rw [hg0];rfl) e k cs (by simp only [H0,hb])
   rw [a2];exact this
  ·trivial
 | .r (.own j e k n cs),v,ho,q=>by
  obtain ⟨h3,h4⟩:=ho (j,.own e k cs) (by simp [owns])
  exact h2 j e k n cs v q h3 h4
theorem ya{Y X':Nat→Prop}{w':World}{dz β bK:Nat→cJ}{b_:List cj}{ids:List Nat}{H':Nat→cL}(uj: ∀b,b<w'.heap.size→ ¬Y b→ ¬X' b)(hlen:ids.length≤b_.length)
  (hat: ∀(p i:Nat) (b:cj),ids[p]?=some i→b_[p]?=some b→H' i=⟨pQ fx H i,some (Na fx ids H d b)⟩∧bK i=dz p)
  (h2: ∀j e k n cs v,gu dz b_ β (.own j e k n cs) v→H' (bf d j)=⟨(H (bf d j)).g+1,some (.own e k cs)⟩→bK (bf d j)=β j→bu bK H' (.aI (bf d j) ((H (bf d j)).g+1) 0 n) v):
  ∀(ps:List PV) (vs:List Value),(∀x∈eD ps,H' (bf d x.1)=⟨(H (bf d x.1)).g+1,some x.2⟩∧bK (bf d x.1)=β x.1)→aZ Y w' (gu dz b_ β) ps vs→aZ X' w' (bu bK H') (Qe fx ids H d ps) vs
 | [],vs,_,q=>q
 | p::ps,vs,ho,⟨v,r,e,q1,q2⟩=>⟨v,r,e,S5 uj hlen hat h2 p v (fun x hx=>ho x (by simp [eD,hx])) q1,ya uj hlen hat h2 ps r (fun x hx=>ho x (by simp [eD,hx])) q2⟩
end
theorem OD: ∀{ids:List Nat} {b_:List cj} {q i:Nat} {e k e' k':Nat} {cs cs':List PD},iA H ids b_=true→ids[q]?=some i→b_[q]?=some (.own e' k' cs')→(H i).b=some (.own e k cs)→cs'.length=cs.length
 | [],_,q,_,_,_,_,_,_,_,_,h,_,_=>by simp at h
 | _::_,[],q,_,_,_,_,_,_,_,_,_,h,_=>by simp at h
 | x::is,b::bs,0,i,_,_,_,_,cs,cs',hs,h1,h2,h3=>by
  simp at h1 h2;subst h1;subst h2
  simp only [iA,h3,Bool.and_eq_true] at hs
  exact of_decide_eq_true hs.1
 | x::is,b::bs,q+1,i,_,_,_,_,cs,cs',hs,h1,h2,h3=>by
  simp only [iA,Bool.and_eq_true] at hs
  exact OD hs.2 (by simpa using h1) (by simpa using h2) h3
theorem S6(hm:Mem E m aS w0 φ H w)(kV:nI P γ w0 aS){f:Nat}{args:List PV}{vs:List Value}{p:PV}{aH:eo}(hargs:aZ (dr E φ) w (bu φ H) args vs)(he:mY γ H d f args=some (p,aH)){x:Sem Next}
  (hx:x.run P w=(callFunc f vs.toArray).run P w):Does P E m aS w0 φ H w p aH x:=by
 unfold mY at he
 have hnd:(gB H args).Nodup:=vQ _
 generalize gB H args=ids at he hnd
 split at he
 ·cases he
 ·rename_i bs nc
  split at he
  ·cases he
  ·rename_i r b_ hr
   split at he
   ·rename_i Ka
    simp only [Option.some.injEq,Prod.mk.injEq] at he
    obtain ⟨rfl,rfl⟩:=he
    simp only [Bool.and_eq_true,List.all_eq_true,decide_eq_true_eq,Bool.not_eq_true'] at Ka
    obtain ⟨⟨⟨kU,hl8⟩,Xl⟩,hj⟩:=Ka
    obtain ⟨hbl,hbg⟩:=GD nc
    have hlen:ids.length≤b_.length:=by
     unfold Nb at kU
     split at kU
     ·rename_i h;have:=Nat.eq_of_beq_eq_true h;omega
     ·have:=of_decide_eq_true kU;omega
    have ajH:xG ids b_=true→iA H ids b_=true:=fun h=>by unfold Nb at kU;rwa [if_pos h] at kU
    have J4:xG ids b_=true→b_.length=(bs.map (pR ids H)).length+1:=fun h=>by have:=Nat.eq_of_beq_eq_true h;rw [List.length_map];omega
    generalize xG ids b_=fx at ajH J4 ⊢
    obtain ⟨ajE,Kb⟩:=kV f _ _ r b_ hr
    have hE: ∀b,dr E φ b→b<w.heap.size:=by
     intro b hb
     rcases hb with h | ⟨i,c,h⟩
     ·exact Nat.lt_of_lt_of_le (hm.ext b h) hm.sz
     ·exact (hm.lt i b c h).1
    have qf: ∀q b c,xH φ ids q= .blk b c→ ∃i,ids[q]?=some i∧φ i= .blk b c:=by
     intro q b c h
     unfold xH at h
     split at h
     ·rename_i i hi;exact ⟨i,hi,h⟩
     ·cases h
    have uk:Passed (dr E φ) w (xH φ ids) (bs.map (pR ids H)):=by
     refine ⟨by simp;omega,fun q b c h=>?_,fun i j b c c' h1 h2=>?_,fun q b h=>?_⟩
     ·obtain ⟨i,hi,h⟩:=qf q b c h
      have:=(List.getElem?_eq_some_iff.1 hi).1
      exact ⟨by simp;omega,.inr ⟨i,c,h⟩⟩
     ·obtain ⟨a,ha,h1⟩:=qf i b c h1
      obtain ⟨a2,ha2,h2⟩:=qf j b c' h2
      have:=hm.inj a a2 b c c' h1 h2
      subst this
      exact (List.getElem?_inj (List.getElem?_eq_some_iff.1 ha).1 hnd).1 (ha.trans ha2.symm)
     ·simp only [List.getElem?_map,Option.map_eq_some_iff] at h
      obtain ⟨b0,hb0,rfl⟩:=h
      have hql:q<ids.length:=by have:=(List.getElem?_eq_some_iff.1 hb0).1;omega
      have hi:ids[q]?=some ids[q]:=List.getElem?_eq_getElem hql
      obtain ⟨b1,hb1,GF⟩:=hbg q _ hi
      rw [hb0] at hb1;cases hb1
      have dG:=hm.rep _ _ GF
      have ey:xH φ ids q=φ ids[q]:=by unfold xH;rw [hi]
      rw [ey]
      cases av8:φ ids[q] with
      | nil a=>rw [av8] at dG;cases b0<;>exact dG
      | blk b c=>
       rw [av8] at dG
       cases b0 with
       | box cs=>
        obtain ⟨Kc,T,h1,h2⟩:=dG
        exact ⟨Kc,T,h1,um nc cs _ h2⟩
       | own e k cs=>
        obtain ⟨q0,cur,xs,r1,r2,r3,r4,r5,r6,r7⟩:=dG
        exact ⟨q0,cur,xs,r1,r2,r3,r4,r5,r6,r7.axg⟩
    have hc:=Kb (dr E φ) w (xH φ ids) vs (hm.later.sub fun q b c h=>by obtain ⟨i,_,h⟩:=qf q b c h;exact ⟨i,c,h⟩) hE uk (um nc args vs hargs)
    refine .inr (.inr ⟨f,vs.toArray,by rw [hx];exact ajE _ _,hc.mono ?_⟩)
    rintro e w' ⟨v,dz,β,rfl,hb,ho⟩
    refine ⟨v,rfl,?_⟩
    have Xm: ∀a b,bf d a=bf d b→a=b:=fun a b h=>by unfold bf at h;omega
    let os:=cY r b_
    let I:Nat→Prop:=fun i=>i∈ids∨ ∃y∈os,i=bf d y.1
    have av9: ∀y∈os,bf d y.1∉ids:=fun y hy ajI=>by
     have:=(hj y hy).2
     rw [List.any_eq_true.2 ⟨_,ajI,by simp⟩] at this
     cases this
    let H':=eO H (lB fx H ids d ids b_++os.map fun x=>nw H (bf d x.1) x.2)
    have hH':H'=eO (eO H (lB fx H ids d ids b_)) (os.map fun x=>nw H (bf d x.1) x.2):=OC _ _ _
    have hH: ∀y∈os,H' (bf d y.1)=⟨(H (bf d y.1)).g+1,some y.2⟩:=fun y hy=>by
     rw [hH']
     exact J9 os (bf d) (fun y=>⟨(H (bf d y.1)).g+1,some y.2⟩) _ y (fun _ _ _ _ h=>Xm _ _ h) Xl hy
    have av_: ∀i,(¬ ∃y∈os,i=bf d y.1)→H' i=eO H (lB fx H ids d ids b_) i:=fun i hi=>by
     rw [hH']
     exact jh _ _ _ (fun y hy e=>by
      obtain ⟨z,hz,rfl⟩:=List.mem_map.1 hy
      exact hi ⟨z,hz,e.symm⟩)
    have S7: ∀(q i:Nat) (b:cj),ids[q]?=some i→b_[q]?=some b→H' i=⟨pQ fx H i,some (Na fx ids H d b)⟩:=fun q i b hi hb'=>by
     rw [av_ i (fun ⟨y,hy,e⟩=>av9 y hy (e▸List.mem_of_getElem? hi))]
     exact Ke (H0':=H) ids b_ H hnd hlen q i b hi hb'
    have azP: ∀i,¬I i→H' i=H i:=fun i hi=>by
     rw [av_ i (fun h=>hi (.inr h))]
     exact jh _ _ _ (fun y hy e=>hi (.inl (e▸Av ids b_ y hy)))
    let bK:Nat→cJ:=fun i=>if os.any (fun y=>Nat.beq i (bf d y.1)) then β (i-8*d-8) else match posOf ids i with | some q=>dz q | none=>φ i
    have qz: ∀y∈os,bK (bf d y.1)=β y.1:=fun y hy=>by
     show (if _ then _ else _)=_
     rw [if_pos (List.any_eq_true.2 ⟨y,hy,by simp⟩),S0]
    have aaI: ∀i,(¬ ∃y∈os,i=bf d y.1)→ ¬(os.any (fun y=>Nat.beq i (bf d y.1))=true):=fun i hi h=>by
     obtain ⟨y,hy,e⟩:=List.any_eq_true.1 h
     exact hi ⟨y,hy,by simpa using e⟩
    have qB: ∀q i,ids[q]?=some i→bK i=dz q:=fun q i hi=>by
     show (if _ then _ else _)=_
     rw [if_neg (aaI i (fun ⟨y,hy,e⟩=>av9 y hy (e▸List.mem_of_getElem? hi))),S4 hnd hi]
    have ajJ: ∀i,¬I i→bK i=φ i:=fun i hi=>by
     show (if _ then _ else _)=_
     rw [if_neg (aaI i (fun h=>hi (.inr h)))]
     cases hp:posOf ids i with
     | none=>rfl
     | some q=>exact absurd (.inl (List.mem_of_getElem? (qA hp))) hi
    have HN: ∀i,i∈ids→ ∃q b b0,ids[q]?=some i∧b_[q]?=some b∧(bs.map (pR ids H))[q]?=some (pR ids H b0)∧(H i).b=some b0:=fun i hi=>by
     obtain ⟨q,hq,rfl⟩:=List.getElem_of_mem hi
     obtain ⟨b0,h1,h2⟩:=hbg q _ (List.getElem?_eq_getElem hq)
     exact ⟨q,b_[q]'(by omega),b0,List.getElem?_eq_getElem hq,List.getElem?_eq_getElem (by omega),(by rw [List.getElem?_map,h1];rfl),h2⟩
    have uj: ∀b,b<w'.heap.size→ ¬Yo (dr E φ) dz β b→ ¬dr E bK b:=by
     intro b _ hn P9
     rcases P9 with h | ⟨i,c,h⟩
     ·exact hn (.inl (.inl h))
     ·by_cases h1: ∃y∈os,i=bf d y.1
      ·obtain ⟨y,hy,rfl⟩:=h1
       rw [qz y hy] at h
       exact hn (.inr (.inr ⟨_,_,h⟩))
      ·by_cases h2:i∈ids
       ·obtain ⟨q,_,_,hq,_⟩:=HN i h2
        rw [qB q i hq] at h
        exact hn (.inr (.inl ⟨_,_,h⟩))
       ·rw [ajJ i (fun h=>h.elim h2 h1)] at h
        exact hn (.inl (.inr ⟨i,c,h⟩))
    have hown: ∀{bK:Nat→cJ} {H':Nat→cL} (j:Nat) (e:TypeId) (k n:Nat) (cs:List PD) (v:Value),gu dz b_ β (.own j e k n cs) v→H' (bf d j)=⟨(H (bf d j)).g+1,some (.own e k cs)⟩→bK (bf d j)=β j→bu bK H' (.aI (bf d j) ((H (bf d j)).g+1) 0 n) v:=by
     intro bK H' j e k n cs v' jZ Qo DI
     obtain ⟨hk,hlen,hv'⟩:=jZ
     cases pV:β j with
     | nil a=>
      rw [pV] at hv' DI
      obtain ⟨rfl,rfl⟩:=hv'
      have hn:n=0:=by
       rw [List.length_nil] at hlen
       rcases Nat.mul_eq_zero.1 hlen.symm with h | h
       ·exact h
       ·omega
      subst hn
      have:=oD (H:=H') (i:=bf d j) (e:=e) DI (by rw [Qo]) hk
      rw [Qo] at this
      exact this
     | blk b c=>
      rw [pV] at hv' DI
      obtain ⟨rfl,hn⟩:=hv'
      have:=qa (H:=H') (i:=bf d j) (e:=e) (cs:=cs) DI (by rw [Qo]) hk hlen hn
      rw [Qo] at this
      exact this
    have kinds: ∀{i q:Nat} {b b0:cj},ids[q]?=some i→b_[q]?=some b→(bs.map (pR ids H))[q]?=some (pR ids H b0)→(H i).b=some b0→
      (∃cs cs',b0= .box cs∧b= .box cs'∧dz q=φ i)∨(∃e k cs cs',b0= .own e k cs∧b= .own e k cs'∧(fx=true→dz q=φ i∧cs.length=cs'.length)):=by
     intro i q b b0 hi hb' hb0 GF
     obtain ⟨k1,k2⟩:=ho.kind q _ hb0
     rw [hb'] at k1
     cases b0 with
     | box cs=>
      cases b with
      | box cs'=>
       refine .inl ⟨cs,cs',rfl,rfl,?_⟩
       rw [k2 (.inl rfl)];unfold xH;rw [hi]
      | own=>exact k1.elim
     | own e k cs=>
      cases b with
      | box=>exact k1.elim
      | own e' k' cs'=>
       obtain ⟨rfl,rfl⟩:=k1
       refine .inr ⟨_,_,cs,cs',rfl,rfl,fun hf=>⟨?_,?_⟩⟩
       ·rw [k2 (.inr (J4 hf))];unfold xH;rw [hi]
       ·exact (OD (ajH hf) hi hb' GF).symm
    have nH:=hm.upd (bK:=bK) (w':=w') (H':=H') I (fun j hj=>⟨ajJ j hj,azP j hj⟩)
     (fun j hj=>by
      by_cases h1: ∃y∈os,j=bf d y.1
      ·obtain ⟨y,hy,rfl⟩:=h1;rw [hH y hy];exact .inl (Nat.lt_succ_self _)
      ·have h2:=hj.resolve_right h1
       obtain ⟨q,b,b0,hq,hb',hb0,GF⟩:=HN j h2
       rw [S7 q j b hq hb']
       rcases kinds hq hb' hb0 GF with ⟨cs,cs',rfl,rfl,S9⟩ | ⟨e,k,cs,cs',rfl,rfl,CJ⟩
       ·exact .inr ⟨by rw [qB q j hq,S9],by show pQ fx H j=_;unfold pQ;rw [GF];cases fx<;>rfl,by rw [GF];trivial⟩
       ·cases hf:fx with
        | false=>exact .inl (by show _<pQ false H j;unfold pQ;rw [GF];exact Nat.lt_succ_self _)
        | true=>
         obtain ⟨S9,hle⟩:=CJ hf
         exact .inr ⟨by rw [qB q j hq,S9],by show pQ true H j=_;unfold pQ;rfl,by rw [GF];exact ⟨rfl,rfl,hle⟩⟩)
     (fun b hb' hne=>hb.blk b hb' (fun q c h=>by
      obtain ⟨i,hi,h⟩:=qf q b c h
      exact hne i c (.inl (List.mem_of_getElem? hi)) h))
     (fun j b c hj hp=>by
      by_cases h1: ∃y∈os,j=bf d y.1
      ·obtain ⟨y,hy,rfl⟩:=h1;rw [qz y hy] at hp;have:=ho.new _ _ _ hp;exact ⟨this.2,.inl this.1⟩
      ·have h2:=hj.resolve_right h1
       obtain ⟨q,_,_,hq,_⟩:=HN j h2
       rw [qB q j hq] at hp
       obtain ⟨_,h4,h5⟩:=ho.dom _ _ _ hp
       refine ⟨h4,h5.imp id fun ⟨c',h⟩=>?_⟩
       obtain ⟨i,hi,h⟩:=qf q b c' h
       rw [hq] at hi;cases hi
       exact ⟨c',h⟩)
     (fun i j b c c' hi hj h1 h2=>by
      by_cases a1: ∃y∈os,i=bf d y.1
      ·obtain ⟨y,hy,rfl⟩:=a1
       rw [qz y hy] at h1
       by_cases a2: ∃y∈os,j=bf d y.1
       ·obtain ⟨z,hz,rfl⟩:=a2
        rw [qz z hz] at h2
        rw [ho.inj _ _ _ _ _ h1 h2]
       ·obtain ⟨q,_,_,hq,_⟩:=HN j (hj.resolve_right a2)
        rw [qB q j hq] at h2
        exact (ho.parted _ _ _ _ _ h2 h1).elim
      ·obtain ⟨q,_,_,hq,_⟩:=HN i (hi.resolve_right a1)
       rw [qB q i hq] at h1
       by_cases a2: ∃y∈os,j=bf d y.1
       ·obtain ⟨z,hz,rfl⟩:=a2
        rw [qz z hz] at h2
        exact (ho.parted _ _ _ _ _ h1 h2).elim
       ·obtain ⟨q2,_,_,hq2,_⟩:=HN j (hj.resolve_right a2)
        rw [qB q2 j hq2] at h2
        have:=ho.inj1 _ _ _ _ _ h1 h2
        subst this
        rw [hq] at hq2;cases hq2;rfl)
     (fun j hj rW=>by
      have h8:=hm.m8
      by_cases h1: ∃y∈os,j=bf d y.1
      ·obtain ⟨y,hy,rfl⟩:=h1;unfold bf at rW;omega
      ·have h2:=hj.resolve_right h1
       obtain ⟨q,b,b0,hq,hb',hb0,GF⟩:=HN j h2
       rw [S7 q j b hq hb',GF]
       rcases kinds hq hb' hb0 GF with ⟨cs,cs',rfl,rfl,S9⟩ | ⟨e,k,cs,cs',rfl,rfl,_⟩
       ·exact ⟨fun b1 hk=>by cases b1<;>exact hk,.inl (by rw [qB q j hq,S9])⟩
       ·exact ⟨fun b1 hk=>by cases b1<;>exact hk,.inr ⟨_,_,_,rfl⟩⟩)
     hb.size ⟨hb.os,hb.tape,hb.out⟩ (by
      intro tr j b hj hb'
      by_cases h1: ∃y∈os,j=bf d y.1
      ·obtain ⟨y,hy,rfl⟩:=h1
       rw [hH y hy] at hb'
       simp only [Option.some.injEq] at hb'
       subst hb'
       rw [qz y hy]
       have q:=ho.own y hy
       have hyo: ∃e k cs,y.2= .own e k cs:=by
        rcases List.mem_append.1 hy with h | h
        ·exact Au r y h
        ·obtain ⟨bb,WX,h⟩:=List.mem_flatMap.1 h
         cases bb with
         | box cs=>exact nS cs y h
         | own=>simp [x6] at h
       obtain ⟨e,k,cs,hown'⟩:=hyo
       rw [hown'] at q ⊢
       cases pV:β y.1 with
       | nil a=>rw [pV] at q;exact q
       | blk b1 c1=>
        rw [pV] at q
        obtain ⟨q0,cur,xs,r1,r2,r3,r4,r5,r6,r7⟩:=q
        exact ⟨q0,cur,xs,r1,r2,r3,r4,r5,r6,aZ.CG uj r7⟩
      ·have h2:=hj.resolve_right h1
       obtain ⟨q,b1,b0,hq,hbq,hb0,GF⟩:=HN j h2
       rw [S7 q j b1 hq hbq] at hb'
       simp only [Option.some.injEq] at hb'
       subst hb'
       rw [qB q j hq]
       have dG:=ho.azC q b1 (by have:=(List.getElem?_eq_some_iff.1 hq).1;rw [List.length_map];omega) hbq
       cases awa:dz q with
       | nil a=>rw [awa] at dG;cases b1<;>exact dG
       | blk b2 c2=>
        rw [awa] at dG
        cases b1 with
        | box cs=>
         obtain ⟨Kc,T,h3,h4⟩:=dG
         refine ⟨Kc,T,h3,?_⟩
         exact ya uj hlen (fun q i b hi hb'=>⟨S7 q i b hi hb',qB q i hi⟩) (fun j e k n cs v=>hown j e k n cs v) cs _ (fun x hx=>by
          have:x∈os:=List.mem_append.2 (.inr (List.mem_flatMap.2 ⟨_,List.mem_of_getElem? hbq,hx⟩))
          exact ⟨hH x this,qz x this⟩) h4
        | own e k cs=>
         obtain ⟨q0,cur,xs,r1,r2,r3,r4,r5,r6,r7⟩:=dG
         exact ⟨q0,cur,xs,r1,r2,r3,r4,r5,r6,aZ.CG uj r7⟩)
    refine ⟨bK,nH.1,nH.2,?_⟩
    exact S5 uj hlen (fun q i b hi hb'=>⟨S7 q i b hi hb',qB q i hi⟩) (fun j e k n cs v=>hown j e k n cs v) r v (fun x hx=>by
     have:x∈os:=List.mem_append.2 (.inl hx)
     exact ⟨hH x this,qz x this⟩) ho.rep
   ·cases he
end
end Go.Proofs.YtobkkblijfhpoaaGreatDoor.Pm
