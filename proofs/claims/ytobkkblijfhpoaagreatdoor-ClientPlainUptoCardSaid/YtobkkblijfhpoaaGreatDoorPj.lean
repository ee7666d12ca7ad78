/- The small machine: blocks under other names, blocks given up, empty slices made one's own. No program is named here. -/
import Derived.Test.YtobkkblijfhpoaaGreatDoorPz
namespace Go.Proofs.YtobkkblijfhpoaaGreatDoor.Pm
open Go.RowKit

mutual
def Ti(M:Nat→Option Nat)(H:Nat→cL)(ng:Nat→Nat):PV→PV
 | .agg cs=> .agg (Tj M H ng cs)
 | .bZ cs=> .bZ (Tj M H ng cs)
 | .fn f cs=> .fn f (Tj M H ng cs)
 | .r (.aI j g l n)=>match look H j g with
  | some (.own _ k cs)=>(match M j with
   | some i=> .r (.aI i (ng i) l n)
   | none=> .d (.sl n ((cs.drop (l*k)).take (n*k))))
  | _=> .un
 | .r (.ptr j g o)=>match look H j g,M j with
  | some _,some i=> .r (.ptr i (ng i) o)
  | _,_=> .un
 | .r (.own ..)=> .un
 | p=>p
def Tj(M:Nat→Option Nat)(H:Nat→cL)(ng:Nat→Nat):List PV→List PV
 | []=> []
 | p::ps=>Ti M H ng p::Tj M H ng ps
end
def mvB(M:Nat→Option Nat)(H:Nat→cL)(ng:Nat→Nat):Option cj→Option cj
 | some (.box cs)=>some (.box (Tj M H ng cs))
 | b=>b
def hB(G:Nat→Nat)(i:Nat):cL:=⟨G i,none⟩
def yj{α:Type}(f:Nat→α):List Nat→(Nat→α)→(Nat→α)
 | [],b=>b
 | i::l,b=>up (yj f l b) i (f i)
def kf:List (Nat×Nat)→Nat→Option Nat
 | [],_=>none
 | (i,j)::r,x=>if Nat.beq x j=true then some i else kf r x
def jP:List (Nat×Nat)→Nat→Option Nat
 | [],_=>none
 | (i,j)::r,x=>if Nat.beq x i=true then some j else jP r x
def uu(L:List Nat)(H:Nat→cL)(i:Nat):Nat:=if (Nat.blt i 8&&(!Nat.beq (H i).g 0 || L.any (Nat.beq (1000000+i))))=true then 1 else 0
theorem asG{L:List Nat}{H:Nat→cL}{i:Nat}(hi:i<8)(h:uu L H i=0):(H i).g=0:=by
 unfold uu at h
 split at h
 ·cases h
 ·rename_i hc
  have h1:Nat.blt i 8=true:=Nat.ble_eq_true_of_le hi
  rw [h1,Bool.true_and] at hc
  simp at hc
  exact hc.1
def pF(L:List Nat)(B:List (Nat×Nat))(H:Nat→cL)(i:Nat):cL:=match jP B i with
 | some j=>⟨uu L H i,mvB (kf B) H (uu L H) (H j).b⟩
 | none=>⟨0,none⟩
def ajZ(B:List (Nat×Nat))(H:Nat→cL):Bool:=
 ((List.range 8).all fun i=>(match jP B i with | some j=>Nat.beq i j | none=>(H i).b.isNone))&&(distinct (B.map (·.1))&&distinct (B.map (·.2)))
def aj0(L:List Nat)(B:List (Nat×Nat))(st:St):St:=
 if ajZ B st.h=true then
  ⟨yj (fun t=>Ti (kf B) st.h (uu L st.h) (st.s t)) L (fun _=> .un),yj (pF L B st.h) (B.map (·.1)) (hB fun _=>0)⟩
 else st
inductive NA where
 | slot (t:Nat) (p:Option Nat) (i e k:Nat)
 | cell (b p i e k:Nat)
def tI(i g:Nat):PV:=if Nat.ble 1 i=true then .r (.aI i g 0 0) else .d (.sl 0 [])
def yl(i e k:Nat)(H:Nat→cL):Nat→cL:=if Nat.ble 1 i=true then up H i ⟨(H i).g+1,some (.own e k [])⟩ else H
def Kp(i e k:Nat)(H:Nat→cL):Bool:=Nat.beq i 0 || (Nat.ble 8 i || (match (H i).b with
 | some (.own e' k' _)=>Nat.beq e' e&&Nat.beq k' k
 | _=>false))
def isNil:PV→Bool
 | .nil=>true
 | _=>false
def DR:NA→St→St
 | .slot t none i e k,st=>if (isNil (st.s t)&&(Nat.blt 0 k&&Kp i e k st.h))=true then ⟨up st.s t (tI i ((st.h i).g+1)),yl i e k st.h⟩ else st
 | .slot t (some p) i e k,st=>match st.s t with
  | .agg cs=>if ((match cs[p]? with | some x=>isNil x | none=>false)&&(Nat.blt 0 k&&Kp i e k st.h))=true then ⟨up st.s t (.agg (cs.set p (tI i ((st.h i).g+1)))),yl i e k st.h⟩ else st
  | _=>st
 | .cell b p i e k,st=>match (st.h b).b with
  | some (.box cs)=>if ((match cs[p]? with | some x=>isNil x | none=>false)&&(Nat.blt 0 k&&Kp i e k st.h)&& !Nat.beq b i)=true then ⟨st.s,up (yl i e k st.h) b ⟨(st.h b).g,some (.box (cs.set p (tI i ((st.h i).g+1))))⟩⟩ else st
  | _=>st
inductive Loc where
 | id (j:Nat)
 | slot (t:Nat) (p:Option Nat)
 | cell (b p:Nat)
def aj1:PV→Option Nat
 | .r (.aI i _ _ _)=>some i
 | .r (.ptr i _ _)=>some i
 | _=>none
def az4(st:St):Loc→Option Nat
 | .id j=>some j
 | .slot t none=>aj1 (st.s t)
 | .slot t (some p)=>match st.s t with
  | .agg cs=>(match cs[p]? with | some x=>aj1 x | none=>none)
  | _=>none
 | .cell b p=>match (st.h b).b with
  | some (.box cs)=>(match cs[p]? with | some x=>aj1 x | none=>none)
  | _=>none
def aj2(st:St):List (Nat×Loc)→List (Nat×Nat)
 | []=> []
 | (i,l)::r=>match az4 st l with
  | some j=>(i,j)::aj2 st r
  | none=>aj2 st r
def acts(A:List NA)(st:St):St:=A.foldl (fun st a=>DR a st) st
def aA(L:List Nat)(B:List (Nat×Loc))(A:List NA)(st:St):St:=aj0 L (aj2 (acts A st) B) (acts A st)

section
variable {P : Program} {E : Nat → Prop} {m : List cj} {aS φ bK : Nat → cJ} {H H' : Nat → cL} {w0 w : World} {N : Nat} {KL : List Nat}
def ju(B:List (Nat×Nat))(φ:Nat→cJ)(i:Nat):cJ:=match jP B i with | some j=>φ j | none=> .nil none
theorem Qt{α:Type}(f:Nat→α)(b:Nat→α): ∀(l:List Nat) (i:Nat),yj f l b i=if j8 l i=true then f i else b i
 | [],i=>rfl
 | x::l,i=>by
  simp only [yj]
  by_cases e:i=x
  ·subst e;rw [aQ,if_pos (by simp [j8])]
  ·rw [dV _ _ _ _ e,Qt f b l i]
   have:j8 (x::l) i=j8 l i:=by simp [j8,e]
   rw [this]
theorem nh: ∀{B:List (Nat×Nat)} {i j:Nat},distinct (B.map (·.1))=true→distinct (B.map (·.2))=true→(jP B i=some j↔kf B j=some i)
 | [],i,j,_,_=>by simp [jP,kf]
 | (a,b)::r,i,j,h1,h2=>by
  simp only [List.map_cons,distinct,Bool.and_eq_true,List.all_eq_true,Bool.not_eq_true'] at h1 h2
  have ih:=nh (B:=r) (i:=i) (j:=j) h1.2 h2.2
  have az5: ∀{r:List (Nat×Nat)} {i j:Nat},jP r i=some j→(i,j)∈r:=by
   intro r
   induction r with
   | nil=>intro i j h;simp [jP] at h
   | cons x r ih=>
    intro i j h
    simp only [jP] at h
    split at h
    ·rename_i e;have e:=Nat.eq_of_beq_eq_true e;cases h;subst e;simp
    ·exact List.mem_cons_of_mem _ (ih h)
  have az6: ∀{r:List (Nat×Nat)} {i j:Nat},kf r j=some i→(i,j)∈r:=by
   intro r
   induction r with
   | nil=>intro i j h;simp [kf] at h
   | cons x r ih=>
    intro i j h
    simp only [kf] at h
    split at h
    ·rename_i e;have e:=Nat.eq_of_beq_eq_true e;cases h;subst e;simp
    ·exact List.mem_cons_of_mem _ (ih h)
  simp only [jP,kf]
  constructor
  ·intro h
   split at h
   ·rename_i e;have e:=Nat.eq_of_beq_eq_true e;cases h;subst e;simp
   ·rename_i e
    have hm:=az5 h
    have hjb: ¬Nat.beq j b=true:=fun hb=>by
     have hb:=Nat.eq_of_beq_eq_true hb
     have:=h2.1 j (List.mem_map_of_mem (f:=fun x=>x.2) hm)
     rw [hb] at this;simp at this
    rw [if_neg hjb];exact ih.1 h
  ·intro h
   split at h
   ·rename_i e;have e:=Nat.eq_of_beq_eq_true e;cases h;subst e;simp
   ·rename_i e
    have hm:=az6 h
    have hia: ¬Nat.beq i a=true:=fun hb=>by
     have hb:=Nat.eq_of_beq_eq_true hb
     have:=h1.1 i (List.mem_map_of_mem (f:=fun x=>x.1) hm)
     rw [hb] at this;simp at this
    rw [if_neg hia];exact ih.2 h
section
variable {B : List (Nat × Nat)}
mutual
theorem Tk(hm:Mem E m aS w0 φ H w)(ym:distinct (B.map (·.1))=true)(uv:distinct (B.map (·.2))=true)(h8: ∀j,kf B j=none→(H j).b≠none→m.length≤j)
  (ch:Ch (dr E φ) (dr E (ju B φ)) w w) (hH: ∀i j,jP B i=some j→H' i=pF KL B H i):
  ∀(p:PV) (v:Value),cT (dr E φ) w (bu φ H) p v→cT (dr E (ju B φ)) w (bu (ju B φ) H') (Ti (kf B) H (uu KL H) p) v
 | .d x,v,q=>dQ.keep ch x v q
 | .cS cs,v,⟨b,o,e,hx,hl,hc⟩=>⟨b,o,e,(ch.blk b hl hx).2,hl,fq.keep ch cs b o hx hl hc⟩
 | .nil,v,q=>q
 | .iG z n cs,v,⟨q1,q2⟩=>⟨dQ.keep ch (.sl n cs) v q1,q2⟩
 | .un,v,_=>trivial
 | .agg cs,v,⟨vs,e,q⟩=>⟨vs,e,yo hm ym uv h8 ch hH cs _ q⟩
 | .bZ cs,v,⟨vs,e,q⟩=>⟨vs,e,yo hm ym uv h8 ch hH cs _ q⟩
 | .fn f cs,v,⟨vs,e,q⟩=>⟨vs,e,yo hm ym uv h8 ch hH cs _ q⟩
 | .r (.own ..),v,q=>q.elim
 | .r (.ptr j g o),v,q=>by
  unfold Ti
  split
  ·rename_i b i hl hM
   obtain ⟨hg,hb⟩:=hm.gR hl
   have ho:=(nh ym uv).2 hM
   obtain ⟨q0,q1,q2⟩:=q
   have e:=hH i j ho
   have goal:bu (ju B φ) H' (.ptr i (uu KL H i) o) v:=by
    refine ⟨q0,by rw [e];simp only [pF,ho];exact Nat.le_refl _,fun _ _=>?_⟩
    obtain ⟨x,c,hp,hv⟩:=q2 hg (by rw [hb];rfl)
    exact ⟨x,c,by simp only [ju,ho];exact hp,hv⟩
   unfold cT;exact goal
  ·trivial
 | .r (.aI j g l n),v,q=>by
  unfold Ti
  split
  ·rename_i e k cs hl
   obtain ⟨hg,hb⟩:=hm.gR hl
   split
   ·rename_i i hM
    have ho:=(nh ym uv).2 hM
    obtain ⟨q0,q1,q2⟩:=q
    have eH:=hH i j ho
    have goal:bu (ju B φ) H' (.aI i (uu KL H i) l n) v:=by
     refine ⟨q0,by rw [eH];simp only [pF,ho];exact Nat.le_refl _,fun _ e' k' cs' hb'=>?_⟩
     rw [eH] at hb'
     simp only [pF,ho,hb,mvB,Option.some.injEq,cj.own.injEq] at hb'
     obtain ⟨rfl,rfl,rfl⟩:=hb'
     have:=q2 hg _ _ _ hb
     simp only [ju,ho];exact this
    unfold cT;exact goal
   ·rename_i hM
    have ha:gm H (.r (.aI j g l n))=some (n,(cs.drop (l*k)).take (n*k)):=by simp only [gm,hl]
    obtain ⟨a,c,us,hv,h1,h2,h3,h4,h5⟩:=hm.qx ha q
    refine ⟨a,c,hv,h1,h2,h3,?_⟩
    rcases h5 with h5 | ⟨b,o,ea,nc,hc⟩
    ·exact .inl h5
    ·by_cases hne:(cs.drop (l*k)).take (n*k)= []
     ·exact .inl hne
     ·obtain ⟨_,_,q2⟩:=q
      obtain ⟨hk,hle,hp⟩:=q2 hg e k cs hb
      have rW:m.length≤j:=h8 j hM (by rw [hb];simp)
      have hx: ¬dr E (ju B φ) b:=by
       cases ey:φ j with
       | nil a'=>rw [ey] at hp;obtain ⟨_,_,rfl⟩:=hp;exact absurd (by simp) hne
       | blk b1 c1=>
        rw [ey] at hp
        obtain ⟨a',c',hv',_,_,h6,_,_⟩:=hp
        have h6:=h6 (by
         rcases Nat.eq_zero_or_pos n with h0 | h0
         ·subst h0;exact absurd (by simp) hne
         ·exact h0)
        rw [hv] at hv';cases hv'
        rw [h6] at ea;cases ea
        rintro (hx | ⟨i',c2,hx⟩)
        ·have:=hm.ext _ hx
         rcases (hm.lt j _ c1 ey).2 with h | ⟨h,_⟩<;>omega
        ·unfold ju at hx
         split at hx
         ·rename_i j' ho'
          have:=hm.inj _ _ _ _ _ ey hx
          subst this
          rw [(nh ym uv).1 ho'] at hM;cases hM
         ·cases hx
      refine .inr ⟨b,o,ea,hx,nc,fq.of fun j' y hy=>?_⟩
      obtain ⟨u,Xf,hu2⟩:=h4.CE j' y hy
      exact ⟨u,hc j' u Xf,dQ.keep ch y u hu2⟩
  ·trivial
theorem yo(hm:Mem E m aS w0 φ H w)(ym:distinct (B.map (·.1))=true)(uv:distinct (B.map (·.2))=true)(h8: ∀j,kf B j=none→(H j).b≠none→m.length≤j)
  (ch:Ch (dr E φ) (dr E (ju B φ)) w w) (hH: ∀i j,jP B i=some j→H' i=pF KL B H i):
  ∀(p:List PV) (v:List Value),aZ (dr E φ) w (bu φ H) p v→aZ (dr E (ju B φ)) w (bu (ju B φ) H') (Tj (kf B) H (uu KL H) p) v
 | [],_,q=>q
 | p::ps,_,⟨v,r,e,q1,q2⟩=>⟨v,r,e,Tk hm ym uv h8 ch hH p v q1,yo hm ym uv h8 ch hH ps r q2⟩
end
end
theorem Mem.move(hm:Mem E m aS w0 φ H w){B:List (Nat×Nat)}(hB:ajZ B H=true){H':Nat→cL}(hH: ∀i,H' i=pF KL B H i):
  Mem E m aS w0 (ju B φ) H' w∧ ∀p v,cT (dr E φ) w (bu φ H) p v→cT (dr E (ju B φ)) w (bu (ju B φ) H') (Ti (kf B) H (uu KL H) p) v:=by
 simp only [ajZ,Bool.and_eq_true,List.all_eq_true,List.mem_range] at hB
 obtain ⟨hB0,ym,uv⟩:=hB
 have own: ∀i,i<m.length→jP B i=some i:=by
  intro i hi
  have h1:=hB0 i (by have:=hm.m8;omega)
  split at h1
  ·rename_i j hj
   have:=Nat.eq_of_beq_eq_true h1
   subst this;exact hj
  ·have:=(hm.pass i m[i] (by simp [hi])).1
   have h0:(H i).b=none:=by simpa using h1
   rw [h0] at this
   cases hk:m[i] with
   | box=>rw [hk] at this;exact this.elim
   | own=>rw [hk] at this;exact this.elim
 have h8: ∀j,kf B j=none→(H j).b≠none→m.length≤j:=by
  intro j hj hb
  apply Classical.byContradiction
  intro hc
  have:=(nh ym uv).1 (own j (by omega))
  rw [this] at hj;cases hj
 have sub: ∀b,dr E (ju B φ) b→dr E φ b:=by
  rintro b (h | ⟨i,c,h⟩)
  ·exact .inl h
  ·unfold ju at h
   split at h
   ·exact .inr ⟨_,c,h⟩
   ·cases h
 have ch:Ch (dr E φ) (dr E (ju B φ)) w w:=⟨Nat.le_refl _,fun b _ hb=>⟨rfl,fun h=>hb (sub b h)⟩⟩
 have conv:=Tk (H':=H') hm ym uv h8 ch (fun i j _=>hH i)
 have aj3:=yo (H':=H') hm ym uv h8 ch (fun i j _=>hH i)
 refine ⟨⟨?_,?_,?_,hm.ext,hm.m8,?_,hm.sz,hm.os,hm.tape,hm.out,hm.fr⟩,conv⟩
 ·intro i b hb
  rw [hH] at hb
  simp only [pF] at hb
  split at hb
  ·rename_i j hj
   have ey:ju B φ i=φ j:=by simp only [ju,hj]
   rw [ey]
   cases hq:(H j).b with
   | none=>rw [hq] at hb;cases hb
   | some bb=>
    rw [hq] at hb
    have q:=hm.rep j bb hq
    cases bb with
    | box cs=>
     simp only [mvB,Option.some.injEq] at hb;subst hb
     cases yh:φ j with
     | nil=>rw [yh] at q;exact q
     | blk x c=>
      rw [yh] at q
      obtain ⟨vs,T,q1,q2⟩:=q
      exact ⟨vs,T,q1,aj3 _ _ q2⟩
    | own e k cs=>
     simp only [mvB,Option.some.injEq] at hb;subst hb
     cases yh:φ j with
     | nil=>rw [yh] at q;exact q
     | blk x c=>
      rw [yh] at q
      obtain ⟨q0,cur,xs,q1,q2,q3,q4,q5,q6,q7⟩:=q
      refine ⟨q0,cur,xs,q1,q2,q3,q4,q5,q6,?_⟩
      have e: ∀l:List PD,Tj (kf B) H (uu KL H) (l.map .d)=l.map .d:=by
       intro l
       induction l with
       | nil=>rfl
       | cons a l ih=>simp [Tj,Ti,ih]
      have:=aj3 _ _ q7
      rw [e] at this;exact this
  ·cases hb
 ·intro i i' b c c' hi hi'
  unfold ju at hi hi'
  split at hi
  ·rename_i j hj
   split at hi'
   ·rename_i j' hj'
    have:=hm.inj _ _ _ _ _ hi hi'
    subst this
    have h1:=(nh ym uv).1 hj
    have h2:=(nh ym uv).1 hj'
    rw [h1] at h2;exact Option.some.inj h2
   ·cases hi'
  ·cases hi
 ·intro i b c hi
  unfold ju at hi
  split at hi
  ·rename_i j hj
   refine ⟨(hm.lt j b c hi).1,?_⟩
   rcases (hm.lt j b c hi).2 with h | ⟨h,hc⟩
   ·exact .inl h
   ·have:=own j h
    have h1:=(nh ym uv).1 hj
    have h2:=(nh ym uv).1 this
    rw [h1] at h2
    have:=Option.some.inj h2
    subst this
    exact .inr ⟨h,hc⟩
  ·cases hi
 ·intro i b0 hi
  have jx:=(List.getElem?_eq_some_iff.1 hi).1
  obtain ⟨p1,p2⟩:=hm.pass i b0 hi
  have ho:=own i jx
  have hg:(H' i).g=0→(H i).g=0:=fun h=>by
   rw [hH] at h;simp only [pF,ho] at h
   exact asG (by have:=hm.m8;omega) h
  refine ⟨?_,fun h=>by simp only [ju,ho];exact p2 (h.imp id hg)⟩
  rw [hH];simp only [pF,ho]
  cases hq:(H i).b with
  | none=>rw [hq] at p1;exact p1
  | some b=>rw [hq] at p1;cases b<;>cases b0<;>first | exact p1 | exact p1.elim
theorem asH{st:St}{a:Act}{w:World}(L:List Nat)(B:List (Nat×Nat))(hr:Rel E m aS w0 N st a w):Rel E m aS w0 N (aj0 L B st) a w:=by
 unfold aj0
 split
 rotate_left
 ·exact hr
 rename_i hk
 obtain ⟨φ,hm,hs⟩:=hr.all
 have hin: ∀i,j8 (B.map (·.1)) i=true↔ ∃j,jP B i=some j:=by
  intro i
  clear hk
  induction B with
  | nil=>simp [j8,jP]
  | cons x r ih=>
   obtain ⟨a,b⟩:=x
   simp only [jP,List.map_cons]
   by_cases e:i=a
   ·subst e;simp [j8]
   ·have h1:j8 (a::r.map (·.1)) i=j8 (r.map (·.1)) i:=by simp [j8,e]
    rw [h1,if_neg (by simpa using e)];exact ih
 obtain ⟨m1,fr⟩:=hm.move (KL:=L) hk (H':=yj (pF L B st.h) (B.map (·.1)) (hB fun _=>0)) (fun i=>by
   rw [Qt]
   by_cases h:j8 (B.map (·.1)) i=true
   ·rw [if_pos h]
   ·rw [if_neg h]
    have:jP B i=none:=by
     cases ho:jP B i with
     | none=>rfl
     | some j=>exact absurd ((hin i).2 ⟨j,ho⟩) h
    simp [pF,uu,this,hB])
 refine ⟨⟨ju B φ,m1,fun t=>?_⟩,hr.defers,hr.size⟩
 show cT (dr E (ju B φ)) w (bu (ju B φ) _) (yj (fun t=>Ti (kf B) st.h (uu L st.h) (st.s t)) L (fun _=> .un) t) _
 rw [Qt]
 split
 ·exact fr _ _ (hs t)
 ·trivial
theorem GJ{p:PV}(h:isNil p=true):p= .nil:=by cases p<;>first | rfl | cases h
theorem Mem.tI(hm:Mem E m aS w0 φ H w)(i e k:Nat)(hk:0<k)(kU:Kp i e k H=true){v:Value}(hv:cT (dr E φ) w (bu φ H) .nil v):
  ∃bK,(∀j,j≠i→bK j=φ j)∧Mem E m aS w0 bK (yl i e k H) w∧Tr E φ H w bK (yl i e k H) w∧cT (dr E bK) w (bu bK (yl i e k H)) (Pm.tI i ((H i).g+1)) v:=by
 obtain ⟨a,rfl⟩:=hv
 unfold yl Pm.tI
 split
 ·rename_i h8
  have h8':1≤i:=Nat.le_of_ble_eq_true h8
  have awh:i<m.length→(∀b0,Bd b0 (H i).b→Bd b0 (some (.own e k [])))∧ ∃e' k' cs,(H i).b=some (.own e' k' cs):=by
   intro hlt
   have hm8:=hm.m8
   unfold Kp at kU
   have h0:Nat.beq i 0=false:=by cases h:Nat.beq i 0;rfl;have:=Nat.eq_of_beq_eq_true h;omega
   have h9:Nat.ble 8 i=false:=by cases h:Nat.ble 8 i;rfl;have:=Nat.le_of_ble_eq_true h;omega
   rw [h0,h9,Bool.false_or,Bool.false_or] at kU
   split at kU
   ·rename_i e' k' cs hb
    rw [Bool.and_eq_true] at kU
    have e1:=Nat.eq_of_beq_eq_true kU.1
    have e2:=Nat.eq_of_beq_eq_true kU.2
    subst e1;subst e2
    exact ⟨fun b0 pU=>by rw [hb] at pU;cases b0<;>first | exact pU | exact pU.elim,_,_,_,hb⟩
   ·cases kU
  have key:=hm.upd (bK:=up φ i (.nil a)) (H':=up H i ⟨(H i).g+1,some (.own e k [])⟩) (w':=w) (fun j=>j=i) (fun j hj=>⟨dV _ _ _ _ hj,dV _ _ _ _ hj⟩) (fun j hj=>by subst hj;rw [aQ];exact .inl (Nat.lt_succ_self _)) (fun _ _ _=>rfl)
   (fun j b' c' hj hp=>by subst hj;rw [aQ] at hp;cases hp) (fun a a' _ _ _ h1 h2 _ _=>h1.trans h2.symm) (fun j hj rW=>by subst hj;rw [aQ];exact ⟨(awh rW).1,.inr (awh rW).2⟩) (Nat.le_refl _) ⟨rfl,rfl,rfl⟩ (by
    intro tr j b' hj hb'
    subst hj
    rw [aQ] at hb'
    simp only [Option.some.injEq] at hb'
    subst hb'
    rw [aQ]
    exact ⟨hk,rfl⟩)
  refine ⟨up φ i (.nil a),fun j hj=>dV _ _ _ _ hj,key.1,key.2,?_⟩
  have:=oD (φ:=up φ i (.nil a)) (H:=up H i ⟨(H i).g+1,some (.own e k [])⟩) (i:=i) (k:=k) (e:=e) (by rw [aQ]) (by rw [aQ]) hk
  rw [aQ] at this
  unfold cT;exact this
 ·exact ⟨φ,fun _ _=>rfl,hm,Tr.refl,⟨a,0,rfl,Nat.le_refl _,by simp,fun _=>rfl,.inl rfl⟩⟩
theorem aZ.set{X:Nat→Prop}{R:Ref→Value→Prop}{x:PV}: ∀{ps:List PV} {vs:List Value} {p:Nat},aZ X w R ps vs→(∀v,vs[p]?=some v→cT X w R x v)→aZ X w R (ps.set p x) vs
 | [],_,_,h,_=>h
 | _::_,_,0,⟨v,r,e,h1,h2⟩,hx=>⟨v,r,e,hx v (by subst e;rfl),h2⟩
 | _::_,_,p+1,⟨v,r,e,h1,h2⟩,hx=>⟨v,r,e,h1,aZ.set h2 (fun u hu=>hx u (by subst e;simpa using hu))⟩
theorem aj4{st:St}{a:Act}{w:World}(x:NA)(hr:Rel E m aS w0 N st a w):Rel E m aS w0 N (DR x st) a w:=by
 obtain ⟨φ,hm,hs⟩:=hr.all
 cases x with
 | slot t p i e k=>
  cases p with
  | none=>
   simp only [DR]
   split
   rotate_left
   ·exact hr
   rename_i hc
   simp only [Bool.and_eq_true] at hc
   have e0:=GJ hc.1
   have hk:0<k:=Nat.le_of_ble_eq_true hc.2.1
   obtain ⟨dz,f1,m1,t1,r1⟩:=hm.tI i e k hk hc.2.2 (v:=a.eval (.tmp t)) (by have:=hs t;rwa [e0] at this)
   refine ⟨⟨dz,m1,fun t'=>?_⟩,hr.defers,hr.size⟩
   show cT _ _ _ (up st.s t _ t') _
   by_cases e:t'=t
   ·subst e;rw [aQ];exact r1
   ·rw [dV _ _ _ _ e];exact t1.v (hs t')
  | some p=>
   simp only [DR]
   split
   rotate_left
   ·exact hr
   rename_i cs ecs
   have hst:=hs t
   rw [ecs] at hst
   obtain ⟨vs,ev,q⟩:=hst
   cases hq:cs[p]? with
   | none=>exact hr
   | some y=>
    simp only []
    split
    rotate_left
    ·exact hr
    rename_i hc
    have hc:=(Bool.and_eq_true _ _).mp hc
    have hc3:=(Bool.and_eq_true _ _).mp hc.2
    have hk:0<k:=Nat.le_of_ble_eq_true hc3.1
    have e0:=GJ hc.1
    subst e0
    obtain ⟨v,hv,hvr⟩:=q.get p _ hq
    obtain ⟨dz,f1,m1,t1,r1⟩:=hm.tI i e k hk hc3.2 (v:=v) hvr
    refine ⟨⟨dz,m1,fun t'=>?_⟩,hr.defers,hr.size⟩
    show cT _ _ _ (up st.s t _ t') _
    by_cases e:t'=t
    ·subst e;rw [aQ];exact ⟨vs,ev,aZ.set (t1.l q) (fun u hu=>by rw [hv] at hu;cases hu;exact r1)⟩
    ·rw [dV _ _ _ _ e];exact t1.v (hs t')
 | cell b p i e k=>
  simp only [DR]
  split
  rotate_left
  ·exact hr
  rename_i cs ecs
  cases hq:cs[p]? with
  | none=>exact hr
  | some y=>
   simp only []
   split
   rotate_left
   ·exact hr
   rename_i hc
   have hc:=(Bool.and_eq_true _ _).mp hc
   have hc1:=(Bool.and_eq_true _ _).mp hc.1
   have hc3:=(Bool.and_eq_true _ _).mp hc1.2
   have hk:0<k:=Nat.le_of_ble_eq_true hc3.1
   have hbi:b≠i:=fun h=>by have:=hc.2;simp [h] at this
   have e0:=GJ hc1.1
   subst e0
   have dG:=hm.rep b _ ecs
   cases ey:φ b with
   | nil a'=>rw [ey] at dG;exact dG.elim
   | blk x c=>
    rw [ey] at dG
    obtain ⟨vs,T,h1,h2⟩:=dG
    obtain ⟨v,hv,hvr⟩:=h2.get p _ hq
    obtain ⟨dz,f1,m1,t1,r1⟩:=hm.tI i e k hk hc3.2 (v:=v) hvr
    have hb1:(yl i e k st.h) b=st.h b:=by
     unfold yl;split
     ·exact dV _ _ _ _ hbi
     ·rfl
    have hg1:((yl i e k st.h) b).b=some (.box cs):=by rw [hb1];exact ecs
    have aCH:=m1.rep b _ hg1
    have Xx:dz b= .blk x c:=by rw [f1 b hbi];exact ey
    have key:=m1.upd (bK:=dz) (H':=up (yl i e k st.h) b ⟨(st.h b).g,some (.box (cs.set p (Pm.tI i ((st.h i).g+1))))⟩) (w':=w) (fun j=>j=b) (fun j hj=>⟨rfl,dV _ _ _ _ hj⟩)
     (fun j hj=>by subst hj;rw [aQ];exact .inr ⟨rfl,by rw [hb1],by rw [hg1];trivial⟩) (fun _ _ _=>rfl)
     (fun j b' c' hj hp=>⟨(m1.lt j b' c' hp).1,.inr ⟨c',hp⟩⟩) (fun a a' _ _ _ h1 h2 _ _=>h1.trans h2.symm)
     (fun j hj rW=>by
      subst hj
      refine ⟨fun b0 h=>?_,.inl rfl⟩
      rw [hg1] at h;rw [aQ]
      cases b0<;>first | trivial | exact h.elim) (Nat.le_refl _) ⟨rfl,rfl,rfl⟩ (fun tr j b' hj hb'=>by
      subst hj
      rw [aQ] at hb'
      simp only [Option.some.injEq] at hb'
      subst hb'
      rw [Xx]
      exact ⟨vs,T,h1,aZ.set (tr.l (t1.l h2)) (fun u hu=>by rw [hv] at hu;cases hu;exact tr.v r1)⟩)
    exact ⟨⟨dz,key.1,fun t'=>key.2.v (t1.v (hs t'))⟩,hr.defers,hr.size⟩
theorem GK{st:St}{a:Act}{w:World}(L:List Nat)(B:List (Nat×Loc))(A:List NA)(hr:Rel E m aS w0 N st a w):Rel E m aS w0 N (aA L B A st) a w:=by
 unfold aA
 refine asH L _ ?_
 unfold acts
 induction A generalizing st with
 | nil=>exact hr
 | cons x A ih=>exact ih (aj4 x hr)
end
end Go.Proofs.YtobkkblijfhpoaaGreatDoor.Pm
