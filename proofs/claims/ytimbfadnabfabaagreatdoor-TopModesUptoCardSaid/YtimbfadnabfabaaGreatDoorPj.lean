/- The small machine: blocks under other names, blocks given up, empty slices made one's own. No program is named here. -/
import Derived.Test.YtimbfadnabfabaaGreatDoorPz
namespace Go.Proofs.YtimbfadnabfabaaGreatDoor.Pm
open Go.RowKit

mutual
def R6(M:Nat→Option Nat)(H:Nat→cq)(ng:Nat→Nat):PV→PV
 | .agg cs=> .agg (R7 M H ng cs)
 | .bE cs=> .bE (R7 M H ng cs)
 | .fn f cs=> .fn f (R7 M H ng cs)
 | .r (.aJ j g l n)=>match look H j g with
  | some (.own _ k cs)=>(match M j with
   | some i=> .r (.aJ i (ng i) l n)
   | none=>if Nat.ble 8 j=true then .d (.sl n ((cs.drop (l*k)).take (n*k))) else .un)
  | _=> .un
 | .r (.ptr j g o)=>match look H j g,M j with
  | some _,some i=> .r (.ptr i (ng i) o)
  | _,_=> .un
 | .r (.own ..)=> .un
 | p=>p
def R7(M:Nat→Option Nat)(H:Nat→cq)(ng:Nat→Nat):List PV→List PV
 | []=> []
 | p::ps=>R6 M H ng p::R7 M H ng ps
end
def mvB(M:Nat→Option Nat)(H:Nat→cq)(ng:Nat→Nat):Option bH→Option bH
 | some (.box cs)=>some (.box (R7 M H ng cs))
 | b=>b
def hB(G:Nat→Nat)(i:Nat):cq:=⟨G i,none⟩
def VQ{α:Type}(f:Nat→α):List Nat→(Nat→α)→(Nat→α)
 | [],b=>b
 | i::l,b=>up (VQ f l b) i (f i)
def kA:List (Nat×Nat)→Nat→Option Nat
 | [],_=>none
 | (i,j)::r,x=>if Nat.beq x j=true then some i else kA r x
def jX:List (Nat×Nat)→Nat→Option Nat
 | [],_=>none
 | (i,j)::r,x=>if Nat.beq x i=true then some j else jX r x
def pV(L:List Nat)(H:Nat→cq)(i:Nat):Nat:=if (Nat.blt i 8&&(!Nat.beq (H i).g 0 || L.any (Nat.beq (1000000+i))))=true then 1 else 0
theorem apU{L:List Nat}{H:Nat→cq}{i:Nat}(hi:i<8)(h:pV L H i=0):(H i).g=0:=by
 unfold pV at h
 split at h
 ·cases h
 ·rename_i hc
  have h1:Nat.blt i 8=true:=Nat.ble_eq_true_of_le hi
  rw [h1,Bool.true_and] at hc
  simp at hc
  exact hc.1
def mV(L:List Nat)(B:List (Nat×Nat))(H:Nat→cq)(i:Nat):cq:=match jX B i with
 | some j=>⟨pV L H i,mvB (kA B) H (pV L H) (H j).b⟩
 | none=>⟨0,none⟩
def OU:Option bH→Option bH→Bool
 | some (.own e k _),some (.own e' k' _)=>Nat.beq e e'&&Nat.beq k k'
 | _,_=>false
def ahX(L:List Nat)(B:List (Nat×Nat))(H:Nat→cq):Bool:=
 ((List.range 8).all fun i=>(match jX B i with
   | some j=>Nat.beq i j || (Nat.ble 8 j&&(OU (H i).b (H j).b&&(L.any (Nat.beq (1000000+i))&&(kA B i).isNone)))
   | none=>(H i).b.isNone))&&(distinct (B.map (·.1))&&distinct (B.map (·.2)))
def ahY(L:List Nat)(B:List (Nat×Nat))(st:St):St:=
 if ahX L B st.h=true then
  ⟨VQ (fun t=>R6 (kA B) st.h (pV L st.h) (st.s t)) L (fun _=> .un),VQ (mV L B st.h) (B.map (·.1)) (hB fun _=>0)⟩
 else st
inductive NA where
 | slot (t:Nat) (p:Option Nat) (i e k:Nat)
 | cell (b p i e k:Nat)
def tF(i g:Nat):PV:=if Nat.ble 1 i=true then .r (.aJ i g 0 0) else .d (.sl 0 [])
def xh(i e k:Nat)(H:Nat→cq):Nat→cq:=if Nat.ble 1 i=true then up H i ⟨(H i).g+1,some (.own e k [])⟩ else H
def IC(i e k:Nat)(H:Nat→cq):Bool:=Nat.beq i 0 || (Nat.ble 8 i || (match (H i).b with
 | some (.own e' k' _)=>Nat.beq e' e&&Nat.beq k' k
 | _=>false))
def isNil:PV→Bool
 | .nil=>true
 | _=>false
def CT:NA→St→St
 | .slot t none i e k,st=>if (isNil (st.s t)&&(Nat.blt 0 k&&IC i e k st.h))=true then ⟨up st.s t (tF i ((st.h i).g+1)),xh i e k st.h⟩ else st
 | .slot t (some p) i e k,st=>match st.s t with
  | .agg cs=>if ((match cs[p]? with | some x=>isNil x | none=>false)&&(Nat.blt 0 k&&IC i e k st.h))=true then ⟨up st.s t (.agg (cs.set p (tF i ((st.h i).g+1)))),xh i e k st.h⟩ else st
  | _=>st
 | .cell b p i e k,st=>match (st.h b).b with
  | some (.box cs)=>if ((match cs[p]? with | some x=>isNil x | none=>false)&&(Nat.blt 0 k&&IC i e k st.h)&& !Nat.beq b i)=true then ⟨st.s,up (xh i e k st.h) b ⟨(st.h b).g,some (.box (cs.set p (tF i ((st.h i).g+1))))⟩⟩ else st
  | _=>st
inductive Loc where
 | id (j:Nat)
 | slot (t:Nat) (p:Option Nat)
 | cell (b p:Nat)
def ahZ:PV→Option Nat
 | .r (.aJ i _ _ _)=>some i
 | .r (.ptr i _ _)=>some i
 | _=>none
def aBq(st:St):Loc→Option Nat
 | .id j=>some j
 | .slot t none=>ahZ (st.s t)
 | .slot t (some p)=>match st.s t with
  | .agg cs=>(match cs[p]? with | some x=>ahZ x | none=>none)
  | _=>none
 | .cell b p=>match (st.h b).b with
  | some (.box cs)=>(match cs[p]? with | some x=>ahZ x | none=>none)
  | _=>none
def ah0(st:St):List (Nat×Loc)→List (Nat×Nat)
 | []=> []
 | (i,l)::r=>match aBq st l with
  | some j=>(i,j)::ah0 st r
  | none=>ah0 st r
def acts(A:List NA)(st:St):St:=A.foldl (fun st a=>CT a st) st
def au(L:List Nat)(B:List (Nat×Loc))(A:List NA)(st:St):St:=ahY L (ah0 (acts A st) B) (acts A st)

section
variable {P : Program} {E : Nat → Prop} {m : List bH} {aP φ bp : Nat → cg} {H H' : Nat → cq} {w0 w : World} {N : Nat} {KL : List Nat}
def jE(B:List (Nat×Nat))(φ:Nat→cg)(i:Nat):cg:=match jX B i with | some j=>φ j | none=> .nil none
theorem OV{α:Type}(f:Nat→α)(b:Nat→α): ∀(l:List Nat) (i:Nat),VQ f l b i=if kr l i=true then f i else b i
 | [],i=>rfl
 | x::l,i=>by
  simp only [VQ]
  by_cases e:i=x
  ·subst e;rw [aQ,if_pos (by simp [kr])]
  ·rw [dK _ _ _ _ e,OV f b l i]
   have:kr (x::l) i=kr l i:=by simp [kr,e]
   rw [this]
theorem oQ: ∀{B:List (Nat×Nat)} {i j:Nat},distinct (B.map (·.1))=true→distinct (B.map (·.2))=true→(jX B i=some j↔kA B j=some i)
 | [],i,j,_,_=>by simp [jX,kA]
 | (a,b)::r,i,j,h1,h2=>by
  simp only [List.map_cons,distinct,Bool.and_eq_true,List.all_eq_true,Bool.not_eq_true'] at h1 h2
  have ih:=oQ (B:=r) (i:=i) (j:=j) h1.2 h2.2
  have aBr: ∀{r:List (Nat×Nat)} {i j:Nat},jX r i=some j→(i,j)∈r:=by
   intro r
   induction r with
   | nil=>intro i j h;simp [jX] at h
   | cons x r ih=>
    intro i j h
    simp only [jX] at h
    split at h
    ·rename_i e;have e:=Nat.eq_of_beq_eq_true e;cases h;subst e;simp
    ·exact List.mem_cons_of_mem _ (ih h)
  have aBs: ∀{r:List (Nat×Nat)} {i j:Nat},kA r j=some i→(i,j)∈r:=by
   intro r
   induction r with
   | nil=>intro i j h;simp [kA] at h
   | cons x r ih=>
    intro i j h
    simp only [kA] at h
    split at h
    ·rename_i e;have e:=Nat.eq_of_beq_eq_true e;cases h;subst e;simp
    ·exact List.mem_cons_of_mem _ (ih h)
  simp only [jX,kA]
  constructor
  ·intro h
   split at h
   ·rename_i e;have e:=Nat.eq_of_beq_eq_true e;cases h;subst e;simp
   ·rename_i e
    have hm:=aBr h
    have hjb: ¬Nat.beq j b=true:=fun hb=>by
     have hb:=Nat.eq_of_beq_eq_true hb
     have:=h2.1 j (List.mem_map_of_mem (f:=fun x=>x.2) hm)
     rw [hb] at this;simp at this
    rw [if_neg hjb];exact ih.1 h
  ·intro h
   split at h
   ·rename_i e;have e:=Nat.eq_of_beq_eq_true e;cases h;subst e;simp
   ·rename_i e
    have hm:=aBs h
    have hia: ¬Nat.beq i a=true:=fun hb=>by
     have hb:=Nat.eq_of_beq_eq_true hb
     have:=h1.1 i (List.mem_map_of_mem (f:=fun x=>x.1) hm)
     rw [hb] at this;simp at this
    rw [if_neg hia];exact ih.2 h
section
variable {B : List (Nat × Nat)}
mutual
theorem R8(hm:Mem E m aP w0 φ H w)(Ak:distinct (B.map (·.1))=true)(Al:distinct (B.map (·.2))=true)
  (ch:Ch (cV E φ) (cV E (jE B φ)) w w) (hH: ∀i j,jX B i=some j→H' i=mV KL B H i):
  ∀(p:PV) (v:Value),cJ (cV E φ) w (bh φ H) p v→cJ (cV E (jE B φ)) w (bh (jE B φ) H') (R6 (kA B) H (pV KL H) p) v
 | .d x,v,q=>dR.keep ch x v q
 | .cD cs,v,⟨b,o,e,hx,hl,hc⟩=>⟨b,o,e,(ch.blk b hl hx).2,hl,fh.keep ch cs b o hx hl hc⟩
 | .nil,v,q=>q
 | .jo z n cs,v,⟨q1,q2⟩=>⟨dR.keep ch (.sl n cs) v q1,q2⟩
 | .un,v,_=>trivial
 | .agg cs,v,⟨vs,e,q⟩=>⟨vs,e,xj hm Ak Al ch hH cs _ q⟩
 | .bE cs,v,⟨vs,e,q⟩=>⟨vs,e,xj hm Ak Al ch hH cs _ q⟩
 | .fn f cs,v,⟨vs,e,q⟩=>⟨vs,e,xj hm Ak Al ch hH cs _ q⟩
 | .r (.own ..),v,q=>q.elim
 | .r (.ptr j g o),v,q=>by
  unfold R6
  split
  ·rename_i b i hl hM
   obtain ⟨hg,hb⟩:=hm.iz hl
   have ho:=(oQ Ak Al).2 hM
   obtain ⟨q0,q1,q2⟩:=q
   have e:=hH i j ho
   have goal:bh (jE B φ) H' (.ptr i (pV KL H i) o) v:=by
    refine ⟨q0,by rw [e];simp only [mV,ho];exact Nat.le_refl _,fun _ _=>?_⟩
    obtain ⟨x,c,hp,hv⟩:=q2 hg (by rw [hb];rfl)
    exact ⟨x,c,by simp only [jE,ho];exact hp,hv⟩
   unfold cJ;exact goal
  ·trivial
 | .r (.aJ j g l n),v,q=>by
  unfold R6
  split
  ·rename_i e k cs hl
   obtain ⟨hg,hb⟩:=hm.iz hl
   split
   ·rename_i i hM
    have ho:=(oQ Ak Al).2 hM
    obtain ⟨q0,q1,q2⟩:=q
    have eH:=hH i j ho
    have goal:bh (jE B φ) H' (.aJ i (pV KL H i) l n) v:=by
     refine ⟨q0,by rw [eH];simp only [mV,ho];exact Nat.le_refl _,fun _ e' k' cs' hb'=>?_⟩
     rw [eH] at hb'
     simp only [mV,ho,hb,mvB,Option.some.injEq,bH.own.injEq] at hb'
     obtain ⟨rfl,rfl,rfl⟩:=hb'
     have:=q2 hg _ _ _ hb
     simp only [jE,ho];exact this
    unfold cJ;exact goal
   ·rename_i hM
    split
    rotate_left
    ·trivial
    rename_i h8
    have ha:fJ H (.r (.aJ j g l n))=some (n,(cs.drop (l*k)).take (n*k)):=by simp only [fJ,hl]
    obtain ⟨a,c,us,hv,h1,h2,h3,h4,h5⟩:=hm.qM ha q
    refine ⟨a,c,hv,h1,h2,h3,?_⟩
    rcases h5 with h5 | ⟨b,o,ea,mU,hc⟩
    ·exact .inl h5
    ·by_cases hne:(cs.drop (l*k)).take (n*k)= []
     ·exact .inl hne
     ·obtain ⟨_,_,q2⟩:=q
      obtain ⟨hk,hle,hp⟩:=q2 hg e k cs hb
      have tP:m.length≤j:=Nat.le_trans hm.m8 (Nat.le_of_ble_eq_true h8)
      have hx: ¬cV E (jE B φ) b:=by
       cases en:φ j with
       | nil a'=>rw [en] at hp;obtain ⟨_,_,rfl⟩:=hp;exact absurd (by simp) hne
       | blk b1 c1=>
        rw [en] at hp
        obtain ⟨a',c',hv',_,_,h6,_,_⟩:=hp
        have h6:=h6 (by
         rcases Nat.eq_zero_or_pos n with h0 | h0
         ·subst h0;exact absurd (by simp) hne
         ·exact h0)
        rw [hv] at hv';cases hv'
        rw [h6] at ea;cases ea
        rintro (hx | ⟨i',c2,hx⟩)
        ·have:=hm.ext _ hx
         rcases (hm.lt j _ c1 en).2 with h | ⟨h,_⟩<;>omega
        ·unfold jE at hx
         split at hx
         ·rename_i j' ho'
          have:=hm.inj _ _ _ _ _ en hx
          subst this
          rw [(oQ Ak Al).1 ho'] at hM;cases hM
         ·cases hx
      refine .inr ⟨b,o,ea,hx,mU,fh.of fun j' y hy=>?_⟩
      obtain ⟨u,Vz,hu2⟩:=h4.Bw j' y hy
      exact ⟨u,hc j' u Vz,dR.keep ch y u hu2⟩
  ·trivial
theorem xj(hm:Mem E m aP w0 φ H w)(Ak:distinct (B.map (·.1))=true)(Al:distinct (B.map (·.2))=true)
  (ch:Ch (cV E φ) (cV E (jE B φ)) w w) (hH: ∀i j,jX B i=some j→H' i=mV KL B H i):
  ∀(p:List PV) (v:List Value),aY (cV E φ) w (bh φ H) p v→aY (cV E (jE B φ)) w (bh (jE B φ) H') (R7 (kA B) H (pV KL H) p) v
 | [],_,q=>q
 | p::ps,_,⟨v,r,e,q1,q2⟩=>⟨v,r,e,R8 hm Ak Al ch hH p v q1,xj hm Ak Al ch hH ps r q2⟩
end
end
theorem Mem.move(hm:Mem E m aP w0 φ H w){B:List (Nat×Nat)}(hB:ahX KL B H=true){H':Nat→cq}(hH: ∀i,H' i=mV KL B H i):
  Mem E m aP w0 (jE B φ) H' w∧ ∀p v,cJ (cV E φ) w (bh φ H) p v→cJ (cV E (jE B φ)) w (bh (jE B φ) H') (R6 (kA B) H (pV KL H) p) v:=by
 simp only [ahX,Bool.and_eq_true,List.all_eq_true,List.mem_range] at hB
 obtain ⟨hB0,Ak,Al⟩:=hB
 have own: ∀i,i<m.length→ ∃j,jX B i=some j∧(i=j∨(8≤j∧OU (H i).b (H j).b=true∧KL.any (Nat.beq (1000000+i))=true∧kA B i=none)):=by
  intro i hi
  have h1:=hB0 i (by have:=hm.m8;omega)
  split at h1
  ·rename_i j hj
   refine ⟨j,hj,?_⟩
   rw [Bool.or_eq_true,Bool.and_eq_true,Bool.and_eq_true,Bool.and_eq_true] at h1
   rcases h1 with h1 | ⟨h1,h2,h3,h4⟩
   ·exact .inl (Nat.eq_of_beq_eq_true h1)
   ·exact .inr ⟨Nat.le_of_ble_eq_true h1,h2,h3,by simpa using h4⟩
  ·have:=(hm.pass i m[i] (by simp [hi])).1
   have h0:(H i).b=none:=by simpa using h1
   rw [h0] at this
   cases hk:m[i] with
   | box=>rw [hk] at this;exact this.elim
   | own=>rw [hk] at this;exact this.elim
 have sub: ∀b,cV E (jE B φ) b→cV E φ b:=by
  rintro b (h | ⟨i,c,h⟩)
  ·exact .inl h
  ·unfold jE at h
   split at h
   ·exact .inr ⟨_,c,h⟩
   ·cases h
 have ch:Ch (cV E φ) (cV E (jE B φ)) w w:=⟨Nat.le_refl _,fun b _ hb=>⟨rfl,fun h=>hb (sub b h)⟩⟩
 have conv:=R8 (H':=H') hm Ak Al ch (fun i j _=>hH i)
 have ah1:=xj (H':=H') hm Ak Al ch (fun i j _=>hH i)
 refine ⟨⟨?_,?_,?_,hm.ext,hm.m8,?_,hm.sz,hm.os,hm.tape,hm.out,hm.fr⟩,conv⟩
 ·intro i b hb
  rw [hH] at hb
  simp only [mV] at hb
  split at hb
  ·rename_i j hj
   have en:jE B φ i=φ j:=by simp only [jE,hj]
   rw [en]
   cases hq:(H j).b with
   | none=>rw [hq] at hb;cases hb
   | some bb=>
    rw [hq] at hb
    have q:=hm.rep j bb hq
    cases bb with
    | box cs=>
     simp only [mvB,Option.some.injEq] at hb;subst hb
     cases xg:φ j with
     | nil=>rw [xg] at q;exact q
     | blk x c=>
      rw [xg] at q
      obtain ⟨vs,T,q1,q2⟩:=q
      exact ⟨vs,T,q1,ah1 _ _ q2⟩
    | own e k cs=>
     simp only [mvB,Option.some.injEq] at hb;subst hb
     cases xg:φ j with
     | nil=>rw [xg] at q;exact q
     | blk x c=>
      rw [xg] at q
      obtain ⟨q0,cur,xs,q1,q2,q3,q4,q5,q6,q7⟩:=q
      refine ⟨q0,cur,xs,q1,q2,q3,q4,q5,q6,?_⟩
      have e: ∀l:List PD,R7 (kA B) H (pV KL H) (l.map .d)=l.map .d:=by
       intro l
       induction l with
       | nil=>rfl
       | cons a l ih=>simp [R7,R6,ih]
      have:=ah1 _ _ q7
      rw [e] at this;exact this
  ·cases hb
 ·intro i i' b c c' hi hi'
  unfold jE at hi hi'
  split at hi
  ·rename_i j hj
   split at hi'
   ·rename_i j' hj'
    have:=hm.inj _ _ _ _ _ hi hi'
    subst this
    have h1:=(oQ Ak Al).1 hj
    have h2:=(oQ Ak Al).1 hj'
    rw [h1] at h2;exact Option.some.inj h2
   ·cases hi'
  ·cases hi
 ·intro i b c hi
  unfold jE at hi
  split at hi
  ·rename_i j hj
   refine ⟨(hm.lt j b c hi).1,?_⟩
   rcases (hm.lt j b c hi).2 with h | ⟨h,hc⟩
   ·exact .inl h
   ·have h1:=(oQ Ak Al).1 hj
    obtain ⟨j2,ho2,hq⟩:=own j h
    rcases hq with hq | ⟨_,_,_,hq⟩
    ·subst hq
     have h2:=(oQ Ak Al).1 ho2
     rw [h1] at h2
     have:=Option.some.inj h2
     subst this
     exact .inr ⟨h,hc⟩
    ·rw [h1] at hq;cases hq
  ·cases hi
 ·intro i b0 hi
  have kY:=(List.getElem?_eq_some_iff.1 hi).1
  obtain ⟨p1,p2⟩:=hm.pass i b0 hi
  obtain ⟨j,ho,hq⟩:=own i kY
  rcases hq with hq | ⟨hj8,hk,EO,_⟩
  ·subst hq
   have hg:(H' i).g=0→(H i).g=0:=fun h=>by
    rw [hH] at h;simp only [mV,ho] at h
    exact apU (by have:=hm.m8;omega) h
   refine ⟨?_,fun h=>by simp only [jE,ho];exact p2 (h.imp id hg)⟩
   rw [hH];simp only [mV,ho]
   cases hq:(H i).b with
   | none=>rw [hq] at p1;exact p1
   | some b=>rw [hq] at p1;cases b<;>cases b0<;>first | exact p1 | exact p1.elim
  ·have hi8:Nat.blt i 8=true:=Nat.ble_eq_true_of_le (by have:=hm.m8;omega)
   have hg1:pV KL H i=1:=by unfold pV;rw [hi8,EO];simp
   have key:wT b0 (mvB (kA B) H (pV KL H) (H j).b)∧Vh b0=false:=by
    cases hqi:(H i).b with
    | none=>rw [hqi] at p1;cases b0<;>exact p1.elim
    | some bi=>
     cases hqj:(H j).b with
     | none=>rw [hqi,hqj] at hk;cases bi<;>cases hk
     | some bj=>
      rw [hqi,hqj] at hk
      rw [hqi] at p1
      cases bi with
      | box=>cases hk
      | own e k cs=>
       cases bj with
       | box=>cases hk
       | own e' k' cs'=>
        simp only [OU,Bool.and_eq_true] at hk
        have h1:=Nat.eq_of_beq_eq_true hk.1
        have h2:=Nat.eq_of_beq_eq_true hk.2
        subst h1 h2
        cases b0 with
        | box=>exact p1.elim
        | own=>exact ⟨p1,rfl⟩
   refine ⟨by rw [hH];simp only [mV,ho];exact key.1,fun h=>?_⟩
   rcases h with h | h
   ·rw [key.2] at h;cases h
   ·rw [hH] at h;simp only [mV,ho] at h;rw [hg1] at h;cases h
theorem apW{st:St}{a:Act}{w:World}(L:List Nat)(B:List (Nat×Nat))(hr:Rel E m aP w0 N st a w):Rel E m aP w0 N (ahY L B st) a w:=by
 unfold ahY
 split
 rotate_left
 ·exact hr
 rename_i hk
 obtain ⟨φ,hm,hs⟩:=hr.all
 have hin: ∀i,kr (B.map (·.1)) i=true↔ ∃j,jX B i=some j:=by
  intro i
  clear hk
  induction B with
  | nil=>simp [kr,jX]
  | cons x r ih=>
   obtain ⟨a,b⟩:=x
   simp only [jX,List.map_cons]
   by_cases e:i=a
   ·subst e;simp [kr]
   ·have h1:kr (a::r.map (·.1)) i=kr (r.map (·.1)) i:=by simp [kr,e]
    rw [h1,if_neg (by simpa using e)];exact ih
 obtain ⟨m1,fr⟩:=hm.move (KL:=L) hk (H':=VQ (mV L B st.h) (B.map (·.1)) (hB fun _=>0)) (fun i=>by
   rw [OV]
   by_cases h:kr (B.map (·.1)) i=true
   ·rw [if_pos h]
   ·rw [if_neg h]
    have:jX B i=none:=by
     cases ho:jX B i with
     | none=>rfl
     | some j=>exact absurd ((hin i).2 ⟨j,ho⟩) h
    simp [mV,pV,this,hB])
 refine ⟨⟨jE B φ,m1,fun t=>?_⟩,hr.defers,hr.size⟩
 show cJ (cV E (jE B φ)) w (bh (jE B φ) _) (VQ (fun t=>R6 (kA B) st.h (pV L st.h) (st.s t)) L (fun _=> .un) t) _
 rw [OV]
 split
 ·exact fr _ _ (hs t)
 ·trivial
theorem EX{p:PV}(h:isNil p=true):p= .nil:=by cases p<;>first | rfl | cases h
theorem Mem.tF(hm:Mem E m aP w0 φ H w)(i e k:Nat)(hk:0<k)(kK:IC i e k H=true){v:Value}(hv:cJ (cV E φ) w (bh φ H) .nil v):
  ∃bp,(∀j,j≠i→bp j=φ j)∧Mem E m aP w0 bp (xh i e k H) w∧Tr E φ H w bp (xh i e k H) w∧cJ (cV E bp) w (bh bp (xh i e k H)) (Pm.tF i ((H i).g+1)) v:=by
 obtain ⟨a,rfl⟩:=hv
 unfold xh Pm.tF
 split
 ·rename_i h8
  have h8':1≤i:=Nat.le_of_ble_eq_true h8
  have avW:i<m.length→(∀b0,wT b0 (H i).b→wT b0 (some (.own e k [])))∧ ∃e' k' cs,(H i).b=some (.own e' k' cs):=by
   intro hlt
   have hm8:=hm.m8
   unfold IC at kK
   have h0:Nat.beq i 0=false:=by cases h:Nat.beq i 0;rfl;have:=Nat.eq_of_beq_eq_true h;omega
   have h9:Nat.ble 8 i=false:=by cases h:Nat.ble 8 i;rfl;have:=Nat.le_of_ble_eq_true h;omega
   rw [h0,h9,Bool.false_or,Bool.false_or] at kK
   split at kK
   ·rename_i e' k' cs hb
    rw [Bool.and_eq_true] at kK
    have e1:=Nat.eq_of_beq_eq_true kK.1
    have e2:=Nat.eq_of_beq_eq_true kK.2
    subst e1;subst e2
    exact ⟨fun b0 pI=>by rw [hb] at pI;cases b0<;>first | exact pI | exact pI.elim,_,_,_,hb⟩
   ·cases kK
  have key:=hm.upd (bp:=up φ i (.nil a)) (H':=up H i ⟨(H i).g+1,some (.own e k [])⟩) (w':=w) (fun j=>j=i) (fun j hj=>⟨dK _ _ _ _ hj,dK _ _ _ _ hj⟩) (fun j hj=>by subst hj;rw [aQ];exact .inl (Nat.lt_succ_self _)) (fun _ _ _=>rfl)
   (fun j b' c' hj hp=>by subst hj;rw [aQ] at hp;cases hp) (fun a a' _ _ _ h1 h2 _ _=>h1.trans h2.symm) (fun j hj tP=>by subst hj;rw [aQ];exact ⟨(avW tP).1,.inr (avW tP).2⟩) (Nat.le_refl _) ⟨rfl,rfl,rfl⟩ (by
    intro tr j b' hj hb'
    subst hj
    rw [aQ] at hb'
    simp only [Option.some.injEq] at hb'
    subst hb'
    rw [aQ]
    exact ⟨hk,rfl⟩)
  refine ⟨up φ i (.nil a),fun j hj=>dK _ _ _ _ hj,key.1,key.2,?_⟩
  have:=oJ (φ:=up φ i (.nil a)) (H:=up H i ⟨(H i).g+1,some (.own e k [])⟩) (i:=i) (k:=k) (e:=e) (by rw [aQ]) (by rw [aQ]) hk
  rw [aQ] at this
  unfold cJ;exact this
 ·exact ⟨φ,fun _ _=>rfl,hm,Tr.refl,⟨a,0,rfl,Nat.le_refl _,by simp,fun _=>rfl,.inl rfl⟩⟩
theorem aY.set{X:Nat→Prop}{R:Ref→Value→Prop}{x:PV}: ∀{ps:List PV} {vs:List Value} {p:Nat},aY X w R ps vs→(∀v,vs[p]?=some v→cJ X w R x v)→aY X w R (ps.set p x) vs
 | [],_,_,h,_=>h
 | _::_,_,0,⟨v,r,e,h1,h2⟩,hx=>⟨v,r,e,hx v (by subst e;rfl),h2⟩
 | _::_,_,p+1,⟨v,r,e,h1,h2⟩,hx=>⟨v,r,e,h1,aY.set h2 (fun u hu=>hx u (by subst e;simpa using hu))⟩
theorem ah2{st:St}{a:Act}{w:World}(x:NA)(hr:Rel E m aP w0 N st a w):Rel E m aP w0 N (CT x st) a w:=by
 obtain ⟨φ,hm,hs⟩:=hr.all
 cases x with
 | slot t p i e k=>
  cases p with
  | none=>
   simp only [CT]
   split
   rotate_left
   ·exact hr
   rename_i hc
   simp only [Bool.and_eq_true] at hc
   have e0:=EX hc.1
   have hk:0<k:=Nat.le_of_ble_eq_true hc.2.1
   obtain ⟨dA,f1,m1,t1,r1⟩:=hm.tF i e k hk hc.2.2 (v:=a.eval (.tmp t)) (by have:=hs t;rwa [e0] at this)
   refine ⟨⟨dA,m1,fun t'=>?_⟩,hr.defers,hr.size⟩
   show cJ _ _ _ (up st.s t _ t') _
   by_cases e:t'=t
   ·subst e;rw [aQ];exact r1
   ·rw [dK _ _ _ _ e];exact t1.v (hs t')
  | some p=>
   simp only [CT]
   split
   rotate_left
   ·exact hr
   rename_i cs ecs
   have hst:=hs t
   rw [ecs] at hst
   obtain ⟨vs,ev,q⟩:=hst
   cases hq:cs[p]? with
   | none=>exact hr
   | some y=>
    simp only []
    split
    rotate_left
    ·exact hr
    rename_i hc
    have hc:=(Bool.and_eq_true _ _).mp hc
    have hc3:=(Bool.and_eq_true _ _).mp hc.2
    have hk:0<k:=Nat.le_of_ble_eq_true hc3.1
    have e0:=EX hc.1
    subst e0
    obtain ⟨v,hv,hvr⟩:=q.get p _ hq
    obtain ⟨dA,f1,m1,t1,r1⟩:=hm.tF i e k hk hc3.2 (v:=v) hvr
    refine ⟨⟨dA,m1,fun t'=>?_⟩,hr.defers,hr.size⟩
    show cJ _ _ _ (up st.s t _ t') _
    by_cases e:t'=t
    ·subst e;rw [aQ];exact ⟨vs,ev,aY.set (t1.l q) (fun u hu=>by rw [hv] at hu;cases hu;exact r1)⟩
    ·rw [dK _ _ _ _ e];exact t1.v (hs t')
 | cell b p i e k=>
  simp only [CT]
  split
  rotate_left
  ·exact hr
  rename_i cs ecs
  cases hq:cs[p]? with
  | none=>exact hr
  | some y=>
   simp only []
   split
   rotate_left
   ·exact hr
   rename_i hc
   have hc:=(Bool.and_eq_true _ _).mp hc
   have hc1:=(Bool.and_eq_true _ _).mp hc.1
   have hc3:=(Bool.and_eq_true _ _).mp hc1.2
   have hk:0<k:=Nat.le_of_ble_eq_true hc3.1
   have hbi:b≠i:=fun h=>by have:=hc.2;simp [h] at this
   have e0:=EX hc1.1
   subst e0
   have dz:=hm.rep b _ ecs
   cases en:φ b with
   | nil a'=>rw [en] at dz;exact dz.elim
   | blk x c=>
    rw [en] at dz
    obtain ⟨vs,T,h1,h2⟩:=dz
    obtain ⟨v,hv,hvr⟩:=h2.get p _ hq
    obtain ⟨dA,f1,m1,t1,r1⟩:=hm.tF i e k hk hc3.2 (v:=v) hvr
    have hb1:(xh i e k st.h) b=st.h b:=by
     unfold xh;split
     ·exact dK _ _ _ _ hbi
     ·rfl
    have hg1:((xh i e k st.h) b).b=some (.box cs):=by rw [hb1];exact ecs
    have aEB:=m1.rep b _ hg1
    have VR:dA b= .blk x c:=by rw [f1 b hbi];exact en
    have key:=m1.upd (bp:=dA) (H':=up (xh i e k st.h) b ⟨(st.h b).g,some (.box (cs.set p (Pm.tF i ((st.h i).g+1))))⟩) (w':=w) (fun j=>j=b) (fun j hj=>⟨rfl,dK _ _ _ _ hj⟩)
     (fun j hj=>by subst hj;rw [aQ];exact .inr ⟨rfl,by rw [hb1],by rw [hg1];trivial⟩) (fun _ _ _=>rfl)
     (fun j b' c' hj hp=>⟨(m1.lt j b' c' hp).1,.inr ⟨c',hp⟩⟩) (fun a a' _ _ _ h1 h2 _ _=>h1.trans h2.symm)
     (fun j hj tP=>by
      subst hj
      refine ⟨fun b0 h=>?_,.inl rfl⟩
      rw [hg1] at h;rw [aQ]
      cases b0<;>first | trivial | exact h.elim) (Nat.le_refl _) ⟨rfl,rfl,rfl⟩ (fun tr j b' hj hb'=>by
      subst hj
      rw [aQ] at hb'
      simp only [Option.some.injEq] at hb'
      subst hb'
      rw [VR]
      exact ⟨vs,T,h1,aY.set (tr.l (t1.l h2)) (fun u hu=>by rw [hv] at hu;cases hu;exact tr.v r1)⟩)
    exact ⟨⟨dA,key.1,fun t'=>key.2.v (t1.v (hs t'))⟩,hr.defers,hr.size⟩
theorem EY{st:St}{a:Act}{w:World}(L:List Nat)(B:List (Nat×Loc))(A:List NA)(hr:Rel E m aP w0 N st a w):Rel E m aP w0 N (au L B A st) a w:=by
 unfold au
 refine apW L _ ?_
 unfold acts
 induction A generalizing st with
 | nil=>exact hr
 | cons x A ih=>exact ih (ah2 x hr)
end
end Go.Proofs.YtimbfadnabfabaaGreatDoor.Pm
