/- The small machine: blocks under other names, blocks given up, empty slices made one's own. No program is named here. -/
import Derived.Test.YtimbfadnabfabaaGreatDoorPz
namespace Go.Proofs.YtimbfadnabfabaaGreatDoor.Pm
open Go.RowKit

mutual
def SH(M:Nat→Option Nat)(H:Nat→cw)(ng:Nat→Nat):PV→PV
 | .agg cs=> .agg (SI M H ng cs)
 | .bH cs=> .bH (SI M H ng cs)
 | .fn f cs=> .fn f (SI M H ng cs)
 | .r (.aL j g l n)=>match look H j g with
  | some (.own _ k cs)=>(match M j with
   | some i=> .r (.aL i (ng i) l n)
   | none=>if Nat.ble 8 j=true then .d (.sl n ((cs.drop (l*k)).take (n*k))) else .un)
  | _=> .un
 | .r (.ptr j g o)=>match look H j g,M j with
  | some _,some i=> .r (.ptr i (ng i) o)
  | _,_=> .un
 | .r (.own ..)=> .un
 | p=>p
def SI(M:Nat→Option Nat)(H:Nat→cw)(ng:Nat→Nat):List PV→List PV
 | []=> []
 | p::ps=>SH M H ng p::SI M H ng ps
end
def mvB(M:Nat→Option Nat)(H:Nat→cw)(ng:Nat→Nat):Option bM→Option bM
 | some (.box cs)=>some (.box (SI M H ng cs))
 | b=>b
def hB(G:Nat→Nat)(i:Nat):cw:=⟨G i,none⟩
def Wo{α:Type}(f:Nat→α):List Nat→(Nat→α)→(Nat→α)
 | [],b=>b
 | i::l,b=>up (Wo f l b) i (f i)
def kH:List (Nat×Nat)→Nat→Option Nat
 | [],_=>none
 | (i,j)::r,x=>if Nat.beq x j=true then some i else kH r x
def ke:List (Nat×Nat)→Nat→Option Nat
 | [],_=>none
 | (i,j)::r,x=>if Nat.beq x i=true then some j else ke r x
def qK(L:List Nat)(H:Nat→cw)(i:Nat):Nat:=if (Nat.blt i 8&&(!Nat.beq (H i).g 0 || L.any (Nat.beq (1000000+i))))=true then 1 else 0
theorem asY{L:List Nat}{H:Nat→cw}{i:Nat}(hi:i<8)(h:qK L H i=0):(H i).g=0:=by
 unfold qK at h
 split at h
 ·cases h
 ·rename_i hc
  have h1:Nat.blt i 8=true:=Nat.ble_eq_true_of_le hi
  rw [h1,Bool.true_and] at hc
  simp at hc
  exact hc.1
def nG(L:List Nat)(B:List (Nat×Nat))(H:Nat→cw)(i:Nat):cw:=match ke B i with
 | some j=>⟨qK L H i,mvB (kH B) H (qK L H) (H j).b⟩
 | none=>⟨0,none⟩
def PI:Option bM→Option bM→Bool
 | some (.own e k _),some (.own e' k' _)=>Nat.beq e e'&&Nat.beq k k'
 | _,_=>false
def ajA(L:List Nat)(B:List (Nat×Nat))(H:Nat→cw):Bool:=
 ((List.range 8).all fun i=>(match ke B i with
   | some j=>Nat.beq i j || (Nat.ble 8 j&&(PI (H i).b (H j).b&&(L.any (Nat.beq (1000000+i))&&(kH B i).isNone)))
   | none=>(H i).b.isNone))&&(distinct (B.map (·.1))&&distinct (B.map (·.2)))
def ajB(L:List Nat)(B:List (Nat×Nat))(st:St):St:=
 if ajA L B st.h=true then
  ⟨Wo (fun t=>SH (kH B) st.h (qK L st.h) (st.s t)) L (fun _=> .un),Wo (nG L B st.h) (B.map (·.1)) (hB fun _=>0)⟩
 else st
inductive NA where
 | slot (t:Nat) (p:Option Nat) (i e k:Nat)
 | cell (b p i e k:Nat)
def uA(i g:Nat):PV:=if Nat.ble 1 i=true then .r (.aL i g 0 0) else .d (.sl 0 [])
def yL(i e k:Nat)(H:Nat→cw):Nat→cw:=if Nat.ble 1 i=true then up H i ⟨(H i).g+1,some (.own e k [])⟩ else H
def JB(i e k:Nat)(H:Nat→cw):Bool:=Nat.beq i 0 || (Nat.ble 8 i || (match (H i).b with
 | some (.own e' k' _)=>Nat.beq e' e&&Nat.beq k' k
 | _=>false))
def isNil:PV→Bool
 | .nil=>true
 | _=>false
def DC:NA→St→St
 | .slot t none i e k,st=>if (isNil (st.s t)&&(Nat.blt 0 k&&JB i e k st.h))=true then ⟨up st.s t (uA i ((st.h i).g+1)),yL i e k st.h⟩ else st
 | .slot t (some p) i e k,st=>match st.s t with
  | .agg cs=>if ((match cs[p]? with | some x=>isNil x | none=>false)&&(Nat.blt 0 k&&JB i e k st.h))=true then ⟨up st.s t (.agg (cs.set p (uA i ((st.h i).g+1)))),yL i e k st.h⟩ else st
  | _=>st
 | .cell b p i e k,st=>match (st.h b).b with
  | some (.box cs)=>if ((match cs[p]? with | some x=>isNil x | none=>false)&&(Nat.blt 0 k&&JB i e k st.h)&& !Nat.beq b i)=true then ⟨st.s,up (yL i e k st.h) b ⟨(st.h b).g,some (.box (cs.set p (uA i ((st.h i).g+1))))⟩⟩ else st
  | _=>st
inductive Loc where
 | id (j:Nat)
 | slot (t:Nat) (p:Option Nat)
 | cell (b p:Nat)
def ajC:PV→Option Nat
 | .r (.aL i _ _ _)=>some i
 | .r (.ptr i _ _)=>some i
 | _=>none
def aCI(st:St):Loc→Option Nat
 | .id j=>some j
 | .slot t none=>ajC (st.s t)
 | .slot t (some p)=>match st.s t with
  | .agg cs=>(match cs[p]? with | some x=>ajC x | none=>none)
  | _=>none
 | .cell b p=>match (st.h b).b with
  | some (.box cs)=>(match cs[p]? with | some x=>ajC x | none=>none)
  | _=>none
def ajD(st:St):List (Nat×Loc)→List (Nat×Nat)
 | []=> []
 | (i,l)::r=>match aCI st l with
  | some j=>(i,j)::ajD st r
  | none=>ajD st r
def acts(A:List NA)(st:St):St:=A.foldl (fun st a=>DC a st) st
def au(L:List Nat)(B:List (Nat×Loc))(A:List NA)(st:St):St:=ajB L (ajD (acts A st) B) (acts A st)

section
variable {P : Program} {E : Nat → Prop} {m : List bM} {aQ φ bq : Nat → cr} {H H' : Nat → cw} {w0 w : World} {N : Nat} {KL : List Nat}
def jM(B:List (Nat×Nat))(φ:Nat→cr)(i:Nat):cr:=match ke B i with | some j=>φ j | none=> .nil none
theorem PJ{α:Type}(f:Nat→α)(b:Nat→α): ∀(l:List Nat) (i:Nat),Wo f l b i=if kE l i=true then f i else b i
 | [],i=>rfl
 | x::l,i=>by
  simp only [Wo]
  by_cases e:i=x
  ·subst e;rw [aR,if_pos (by simp [kE])]
  ·rw [dM _ _ _ _ e,PJ f b l i]
   have:kE (x::l) i=kE l i:=by simp [kE,e]
   rw [this]
theorem pX: ∀{B:List (Nat×Nat)} {i j:Nat},distinct (B.map (·.1))=true→distinct (B.map (·.2))=true→(ke B i=some j↔kH B j=some i)
 | [],i,j,_,_=>by simp [ke,kH]
 | (a,b)::r,i,j,h1,h2=>by
  simp only [List.map_cons,distinct,Bool.and_eq_true,List.all_eq_true,Bool.not_eq_true'] at h1 h2
  have ih:=pX (B:=r) (i:=i) (j:=j) h1.2 h2.2
  have aCJ: ∀{r:List (Nat×Nat)} {i j:Nat},ke r i=some j→(i,j)∈r:=by
   intro r
   induction r with
   | nil=>intro i j h;simp [ke] at h
   | cons x r ih=>
    intro i j h
    simp only [ke] at h
    split at h
    ·rename_i e;have e:=Nat.eq_of_beq_eq_true e;cases h;subst e;simp
    ·exact List.mem_cons_of_mem _ (ih h)
  have aCK: ∀{r:List (Nat×Nat)} {i j:Nat},kH r j=some i→(i,j)∈r:=by
   intro r
   induction r with
   | nil=>intro i j h;simp [kH] at h
   | cons x r ih=>
    intro i j h
    simp only [kH] at h
    split at h
    ·rename_i e;have e:=Nat.eq_of_beq_eq_true e;cases h;subst e;simp
    ·exact List.mem_cons_of_mem _ (ih h)
  simp only [ke,kH]
  constructor
  ·intro h
   split at h
   ·rename_i e;have e:=Nat.eq_of_beq_eq_true e;cases h;subst e;simp
   ·rename_i e
    have hm:=aCJ h
    have hjb: ¬Nat.beq j b=true:=fun hb=>by
     have hb:=Nat.eq_of_beq_eq_true hb
     have:=h2.1 j (List.mem_map_of_mem (f:=fun x=>x.2) hm)
     rw [hb] at this;simp at this
    rw [if_neg hjb];exact ih.1 h
  ·intro h
   split at h
   ·rename_i e;have e:=Nat.eq_of_beq_eq_true e;cases h;subst e;simp
   ·rename_i e
    have hm:=aCK h
    have hia: ¬Nat.beq i a=true:=fun hb=>by
     have hb:=Nat.eq_of_beq_eq_true hb
     have:=h1.1 i (List.mem_map_of_mem (f:=fun x=>x.1) hm)
     rw [hb] at this;simp at this
    rw [if_neg hia];exact ih.2 h
section
variable {B : List (Nat × Nat)}
mutual
theorem SJ(hm:Mem E m aQ w0 φ H w)(Bo:distinct (B.map (·.1))=true)(Bp:distinct (B.map (·.2))=true)
  (ch:Ch (cW E φ) (cW E (jM B φ)) w w) (hH: ∀i j,ke B i=some j→H' i=nG KL B H i):
  ∀(p:PV) (v:Value),cK (cW E φ) w (bk φ H) p v→cK (cW E (jM B φ)) w (bk (jM B φ) H') (SH (kH B) H (qK KL H) p) v
 | .d x,v,q=>dS.keep ch x v q
 | .cD cs,v,⟨b,o,e,hx,hl,hc⟩=>⟨b,o,e,(ch.blk b hl hx).2,hl,fu.keep ch cs b o hx hl hc⟩
 | .nil,v,q=>q
 | .jv z n cs,v,⟨q1,q2⟩=>⟨dS.keep ch (.sl n cs) v q1,q2⟩
 | .un,v,_=>trivial
 | .agg cs,v,⟨vs,e,q⟩=>⟨vs,e,yM hm Bo Bp ch hH cs _ q⟩
 | .bH cs,v,⟨vs,e,q⟩=>⟨vs,e,yM hm Bo Bp ch hH cs _ q⟩
 | .fn f cs,v,⟨vs,e,q⟩=>⟨vs,e,yM hm Bo Bp ch hH cs _ q⟩
 | .r (.own ..),v,q=>q.elim
 | .r (.ptr j g o),v,q=>by
  unfold SH
  split
  ·rename_i b i hl hM
   obtain ⟨hg,hb⟩:=hm.iA hl
   have ho:=(pX Bo Bp).2 hM
   obtain ⟨q0,q1,q2⟩:=q
   have e:=hH i j ho
   have goal:bk (jM B φ) H' (.ptr i (qK KL H i) o) v:=by
    refine ⟨q0,by rw [e];simp only [nG,ho];exact Nat.le_refl _,fun _ _=>?_⟩
    obtain ⟨x,c,hp,hv⟩:=q2 hg (by rw [hb];rfl)
    exact ⟨x,c,by simp only [jM,ho];exact hp,hv⟩
   unfold cK;exact goal
  ·trivial
 | .r (.aL j g l n),v,q=>by
  unfold SH
  split
  ·rename_i e k cs hl
   obtain ⟨hg,hb⟩:=hm.iA hl
   split
   ·rename_i i hM
    have ho:=(pX Bo Bp).2 hM
    obtain ⟨q0,q1,q2⟩:=q
    have eH:=hH i j ho
    have goal:bk (jM B φ) H' (.aL i (qK KL H i) l n) v:=by
     refine ⟨q0,by rw [eH];simp only [nG,ho];exact Nat.le_refl _,fun _ e' k' cs' hb'=>?_⟩
     rw [eH] at hb'
     simp only [nG,ho,hb,mvB,Option.some.injEq,bM.own.injEq] at hb'
     obtain ⟨rfl,rfl,rfl⟩:=hb'
     have:=q2 hg _ _ _ hb
     simp only [jM,ho];exact this
    unfold cK;exact goal
   ·rename_i hM
    split
    rotate_left
    ·trivial
    rename_i h8
    have ha:fP H (.r (.aL j g l n))=some (n,(cs.drop (l*k)).take (n*k)):=by simp only [fP,hl]
    obtain ⟨a,c,us,hv,h1,h2,h3,h4,h5⟩:=hm.rN ha q
    refine ⟨a,c,hv,h1,h2,h3,?_⟩
    rcases h5 with h5 | ⟨b,o,ea,nE,hc⟩
    ·exact .inl h5
    ·by_cases hne:(cs.drop (l*k)).take (n*k)= []
     ·exact .inl hne
     ·obtain ⟨_,_,q2⟩:=q
      obtain ⟨hk,hle,hp⟩:=q2 hg e k cs hb
      have uH:m.length≤j:=Nat.le_trans hm.m8 (Nat.le_of_ble_eq_true h8)
      have hx: ¬cW E (jM B φ) b:=by
       cases d_:φ j with
       | nil a'=>rw [d_] at hp;obtain ⟨_,_,rfl⟩:=hp;exact absurd (by simp) hne
       | blk b1 c1=>
        rw [d_] at hp
        obtain ⟨a',c',hv',_,_,h6,_,_⟩:=hp
        have h6:=h6 (by
         rcases Nat.eq_zero_or_pos n with h0 | h0
         ·subst h0;exact absurd (by simp) hne
         ·exact h0)
        rw [hv] at hv';cases hv'
        rw [h6] at ea;cases ea
        rintro (hx | ⟨i',c2,hx⟩)
        ·have:=hm.ext _ hx
         rcases (hm.lt j _ c1 d_).2 with h | ⟨h,_⟩<;>omega
        ·unfold jM at hx
         split at hx
         ·rename_i j' ho'
          have:=hm.inj _ _ _ _ _ d_ hx
          subst this
          rw [(pX Bo Bp).1 ho'] at hM;cases hM
         ·cases hx
      refine .inr ⟨b,o,ea,hx,nE,fu.of fun j' y hy=>?_⟩
      obtain ⟨u,V7,hu2⟩:=h4.Cy j' y hy
      exact ⟨u,hc j' u V7,dS.keep ch y u hu2⟩
  ·trivial
theorem yM(hm:Mem E m aQ w0 φ H w)(Bo:distinct (B.map (·.1))=true)(Bp:distinct (B.map (·.2))=true)
  (ch:Ch (cW E φ) (cW E (jM B φ)) w w) (hH: ∀i j,ke B i=some j→H' i=nG KL B H i):
  ∀(p:List PV) (v:List Value),aY (cW E φ) w (bk φ H) p v→aY (cW E (jM B φ)) w (bk (jM B φ) H') (SI (kH B) H (qK KL H) p) v
 | [],_,q=>q
 | p::ps,_,⟨v,r,e,q1,q2⟩=>⟨v,r,e,SJ hm Bo Bp ch hH p v q1,yM hm Bo Bp ch hH ps r q2⟩
end
end
theorem Mem.move(hm:Mem E m aQ w0 φ H w){B:List (Nat×Nat)}(hB:ajA KL B H=true){H':Nat→cw}(hH: ∀i,H' i=nG KL B H i):
  Mem E m aQ w0 (jM B φ) H' w∧ ∀p v,cK (cW E φ) w (bk φ H) p v→cK (cW E (jM B φ)) w (bk (jM B φ) H') (SH (kH B) H (qK KL H) p) v:=by
 simp only [ajA,Bool.and_eq_true,List.all_eq_true,List.mem_range] at hB
 obtain ⟨hB0,Bo,Bp⟩:=hB
 have own: ∀i,i<m.length→ ∃j,ke B i=some j∧(i=j∨(8≤j∧PI (H i).b (H j).b=true∧KL.any (Nat.beq (1000000+i))=true∧kH B i=none)):=by
  intro i hi
  have h1:=hB0 i (by have:=hm.m8;omega)
  split at h1
  ·rename_i j hj
   refine ⟨j,hj,?_⟩
   rw [Bool.or_eq_true,Bool.and_eq_true,Bool.and_eq_true,Bool.and_eq_true] at h1
   rcases h1 with h1 | ⟨h1,h2,h3,h4⟩
   ·exact .inl (Nat.eq_of_beq_eq_true h1)
   ·exact .inr ⟨Nat.le_of_ble_eq_true h1,h2,h3,by simpa using h4⟩
  ·have:=(hm.pass i m[i] (by simp [hi])).1
   have h0:(H i).b=none:=by simpa using h1
   rw [h0] at this
   cases hk:m[i] with
   | box=>rw [hk] at this;exact this.elim
   | own=>rw [hk] at this;exact this.elim
 have sub: ∀b,cW E (jM B φ) b→cW E φ b:=by
  rintro b (h | ⟨i,c,h⟩)
  ·exact .inl h
  ·unfold jM at h
   split at h
   ·exact .inr ⟨_,c,h⟩
   ·cases h
 have ch:Ch (cW E φ) (cW E (jM B φ)) w w:=⟨Nat.le_refl _,fun b _ hb=>⟨rfl,fun h=>hb (sub b h)⟩⟩
 have conv:=SJ (H':=H') hm Bo Bp ch (fun i j _=>hH i)
 have ajE:=yM (H':=H') hm Bo Bp ch (fun i j _=>hH i)
 refine ⟨⟨?_,?_,?_,hm.ext,hm.m8,?_,hm.sz,hm.os,hm.tape,hm.out,hm.fr⟩,conv⟩
 ·intro i b hb
  rw [hH] at hb
  simp only [nG] at hb
  split at hb
  ·rename_i j hj
   have d_:jM B φ i=φ j:=by simp only [jM,hj]
   rw [d_]
   cases hq:(H j).b with
   | none=>rw [hq] at hb;cases hb
   | some bb=>
    rw [hq] at hb
    have q:=hm.rep j bb hq
    cases bb with
    | box cs=>
     simp only [mvB,Option.some.injEq] at hb;subst hb
     cases yK:φ j with
     | nil=>rw [yK] at q;exact q
     | blk x c=>
      rw [yK] at q
      obtain ⟨vs,T,q1,q2⟩:=q
      exact ⟨vs,T,q1,ajE _ _ q2⟩
    | own e k cs=>
     simp only [mvB,Option.some.injEq] at hb;subst hb
     cases yK:φ j with
     | nil=>rw [yK] at q;exact q
     | blk x c=>
      rw [yK] at q
      obtain ⟨q0,cur,xs,q1,q2,q3,q4,q5,q6,q7⟩:=q
      refine ⟨q0,cur,xs,q1,q2,q3,q4,q5,q6,?_⟩
      have e: ∀l:List PD,SI (kH B) H (qK KL H) (l.map .d)=l.map .d:=by
       intro l
       induction l with
       | nil=>rfl
       | cons a l ih=>simp [SI,SH,ih]
      have:=ajE _ _ q7
      rw [e] at this;exact this
  ·cases hb
 ·intro i i' b c c' hi hi'
  unfold jM at hi hi'
  split at hi
  ·rename_i j hj
   split at hi'
   ·rename_i j' hj'
    have:=hm.inj _ _ _ _ _ hi hi'
    subst this
    have h1:=(pX Bo Bp).1 hj
    have h2:=(pX Bo Bp).1 hj'
    rw [h1] at h2;exact Option.some.inj h2
   ·cases hi'
  ·cases hi
 ·intro i b c hi
  unfold jM at hi
  split at hi
  ·rename_i j hj
   refine ⟨(hm.lt j b c hi).1,?_⟩
   rcases (hm.lt j b c hi).2 with h | ⟨h,hc⟩
   ·exact .inl h
   ·have h1:=(pX Bo Bp).1 hj
    obtain ⟨j2,ho2,hq⟩:=own j h
    rcases hq with hq | ⟨_,_,_,hq⟩
    ·subst hq
     have h2:=(pX Bo Bp).1 ho2
     rw [h1] at h2
     have:=Option.some.inj h2
     subst this
     exact .inr ⟨h,hc⟩
    ·rw [h1] at hq;cases hq
  ·cases hi
 ·intro i b0 hi
  have lJ:=(List.getElem?_eq_some_iff.1 hi).1
  obtain ⟨p1,p2⟩:=hm.pass i b0 hi
  obtain ⟨j,ho,hq⟩:=own i lJ
  rcases hq with hq | ⟨hj8,hk,FB,_⟩
  ·subst hq
   have hg:(H' i).g=0→(H i).g=0:=fun h=>by
    rw [hH] at h;simp only [nG,ho] at h
    exact asY (by have:=hm.m8;omega) h
   refine ⟨?_,fun h=>by simp only [jM,ho];exact p2 (h.imp id hg)⟩
   rw [hH];simp only [nG,ho]
   cases hq:(H i).b with
   | none=>rw [hq] at p1;exact p1
   | some b=>rw [hq] at p1;cases b<;>cases b0<;>first | exact p1 | exact p1.elim
  ·have hi8:Nat.blt i 8=true:=Nat.ble_eq_true_of_le (by have:=hm.m8;omega)
   have hg1:qK KL H i=1:=by unfold qK;rw [hi8,FB];simp
   have key:yx b0 (mvB (kH B) H (qK KL H) (H j).b)∧VO b0=false:=by
    cases hqi:(H i).b with
    | none=>rw [hqi] at p1;cases b0<;>exact p1.elim
    | some bi=>
     cases hqj:(H j).b with
     | none=>rw [hqi,hqj] at hk;cases bi<;>cases hk
     | some bj=>
      rw [hqi,hqj] at hk
      rw [hqi] at p1
      cases bi with
      | box=>cases hk
      | own e k cs=>
       cases bj with
       | box=>cases hk
       | own e' k' cs'=>
        simp only [PI,Bool.and_eq_true] at hk
        have h1:=Nat.eq_of_beq_eq_true hk.1
        have h2:=Nat.eq_of_beq_eq_true hk.2
        subst h1 h2
        cases b0 with
        | box=>exact p1.elim
        | own=>exact ⟨p1,rfl⟩
   refine ⟨by rw [hH];simp only [nG,ho];exact key.1,fun h=>?_⟩
   rcases h with h | h
   ·rw [key.2] at h;cases h
   ·rw [hH] at h;simp only [nG,ho] at h;rw [hg1] at h;cases h
theorem as0{st:St}{a:Act}{w:World}(L:List Nat)(B:List (Nat×Nat))(hr:Rel E m aQ w0 N st a w):Rel E m aQ w0 N (ajB L B st) a w:=by
 unfold ajB
 split
 rotate_left
 ·exact hr
 rename_i hk
 obtain ⟨φ,hm,hs⟩:=hr.all
 have hin: ∀i,kE (B.map (·.1)) i=true↔ ∃j,ke B i=some j:=by
  intro i
  clear hk
  induction B with
  | nil=>simp [kE,ke]
  | cons x r ih=>
   obtain ⟨a,b⟩:=x
   simp only [ke,List.map_cons]
   by_cases e:i=a
   ·subst e;simp [kE]
   ·have h1:kE (a::r.map (·.1)) i=kE (r.map (·.1)) i:=by simp [kE,e]
    rw [h1,if_neg (by simpa using e)];exact ih
 obtain ⟨m1,fr⟩:=hm.move (KL:=L) hk (H':=Wo (nG L B st.h) (B.map (·.1)) (hB fun _=>0)) (fun i=>by
   rw [PJ]
   by_cases h:kE (B.map (·.1)) i=true
   ·rw [if_pos h]
   ·rw [if_neg h]
    have:ke B i=none:=by
     cases ho:ke B i with
     | none=>rfl
     | some j=>exact absurd ((hin i).2 ⟨j,ho⟩) h
    simp [nG,qK,this,hB])
 refine ⟨⟨jM B φ,m1,fun t=>?_⟩,hr.defers,hr.size⟩
 show cK (cW E (jM B φ)) w (bk (jM B φ) _) (Wo (fun t=>SH (kH B) st.h (qK L st.h) (st.s t)) L (fun _=> .un) t) _
 rw [PJ]
 split
 ·exact fr _ _ (hs t)
 ·trivial
theorem FK{p:PV}(h:isNil p=true):p= .nil:=by cases p<;>first | rfl | cases h
theorem Mem.uA(hm:Mem E m aQ w0 φ H w)(i e k:Nat)(hk:0<k)(kZ:JB i e k H=true){v:Value}(hv:cK (cW E φ) w (bk φ H) .nil v):
  ∃bq,(∀j,j≠i→bq j=φ j)∧Mem E m aQ w0 bq (yL i e k H) w∧Tr E φ H w bq (yL i e k H) w∧cK (cW E bq) w (bk bq (yL i e k H)) (Pm.uA i ((H i).g+1)) v:=by
 obtain ⟨a,rfl⟩:=hv
 unfold yL Pm.uA
 split
 ·rename_i h8
  have h8':1≤i:=Nat.le_of_ble_eq_true h8
  have axR:i<m.length→(∀b0,yx b0 (H i).b→yx b0 (some (.own e k [])))∧ ∃e' k' cs,(H i).b=some (.own e' k' cs):=by
   intro hlt
   have hm8:=hm.m8
   unfold JB at kZ
   have h0:Nat.beq i 0=false:=by cases h:Nat.beq i 0;rfl;have:=Nat.eq_of_beq_eq_true h;omega
   have h9:Nat.ble 8 i=false:=by cases h:Nat.ble 8 i;rfl;have:=Nat.le_of_ble_eq_true h;omega
   rw [h0,h9,Bool.false_or,Bool.false_or] at kZ
   split at kZ
   ·rename_i e' k' cs hb
    rw [Bool.and_eq_true] at kZ
    have e1:=Nat.eq_of_beq_eq_true kZ.1
    have e2:=Nat.eq_of_beq_eq_true kZ.2
    subst e1;subst e2
    exact ⟨fun b0 qz=>by rw [hb] at qz;cases b0<;>first | exact qz | exact qz.elim,_,_,_,hb⟩
   ·cases kZ
  have key:=hm.upd (bq:=up φ i (.nil a)) (H':=up H i ⟨(H i).g+1,some (.own e k [])⟩) (w':=w) (fun j=>j=i) (fun j hj=>⟨dM _ _ _ _ hj,dM _ _ _ _ hj⟩) (fun j hj=>by subst hj;rw [aR];exact .inl (Nat.lt_succ_self _)) (fun _ _ _=>rfl)
   (fun j b' c' hj hp=>by subst hj;rw [aR] at hp;cases hp) (fun a a' _ _ _ h1 h2 _ _=>h1.trans h2.symm) (fun j hj uH=>by subst hj;rw [aR];exact ⟨(axR uH).1,.inr (axR uH).2⟩) (Nat.le_refl _) ⟨rfl,rfl,rfl⟩ (by
    intro tr j b' hj hb'
    subst hj
    rw [aR] at hb'
    simp only [Option.some.injEq] at hb'
    subst hb'
    rw [aR]
    exact ⟨hk,rfl⟩)
  refine ⟨up φ i (.nil a),fun j hj=>dM _ _ _ _ hj,key.1,key.2,?_⟩
  have:=pR (φ:=up φ i (.nil a)) (H:=up H i ⟨(H i).g+1,some (.own e k [])⟩) (i:=i) (k:=k) (e:=e) (by rw [aR]) (by rw [aR]) hk
  rw [aR] at this
  unfold cK;exact this
 ·exact ⟨φ,fun _ _=>rfl,hm,Tr.refl,⟨a,0,rfl,Nat.le_refl _,by simp,fun _=>rfl,.inl rfl⟩⟩
theorem aY.set{X:Nat→Prop}{R:Ref→Value→Prop}{x:PV}: ∀{ps:List PV} {vs:List Value} {p:Nat},aY X w R ps vs→(∀v,vs[p]?=some v→cK X w R x v)→aY X w R (ps.set p x) vs
 | [],_,_,h,_=>h
 | _::_,_,0,⟨v,r,e,h1,h2⟩,hx=>⟨v,r,e,hx v (by subst e;rfl),h2⟩
 | _::_,_,p+1,⟨v,r,e,h1,h2⟩,hx=>⟨v,r,e,h1,aY.set h2 (fun u hu=>hx u (by subst e;simpa using hu))⟩
theorem ajF{st:St}{a:Act}{w:World}(x:NA)(hr:Rel E m aQ w0 N st a w):Rel E m aQ w0 N (DC x st) a w:=by
 obtain ⟨φ,hm,hs⟩:=hr.all
 cases x with
 | slot t p i e k=>
  cases p with
  | none=>
   simp only [DC]
   split
   rotate_left
   ·exact hr
   rename_i hc
   simp only [Bool.and_eq_true] at hc
   have e0:=FK hc.1
   have hk:0<k:=Nat.le_of_ble_eq_true hc.2.1
   obtain ⟨dz,f1,m1,t1,r1⟩:=hm.uA i e k hk hc.2.2 (v:=a.eval (.tmp t)) (by have:=hs t;rwa [e0] at this)
   refine ⟨⟨dz,m1,fun t'=>?_⟩,hr.defers,hr.size⟩
   show cK _ _ _ (up st.s t _ t') _
   by_cases e:t'=t
   ·subst e;rw [aR];exact r1
   ·rw [dM _ _ _ _ e];exact t1.v (hs t')
  | some p=>
   simp only [DC]
   split
   rotate_left
   ·exact hr
   rename_i cs ecs
   have hst:=hs t
   rw [ecs] at hst
   obtain ⟨vs,ev,q⟩:=hst
   cases hq:cs[p]? with
   | none=>exact hr
   | some y=>
    simp only []
    split
    rotate_left
    ·exact hr
    rename_i hc
    have hc:=(Bool.and_eq_true _ _).mp hc
    have hc3:=(Bool.and_eq_true _ _).mp hc.2
    have hk:0<k:=Nat.le_of_ble_eq_true hc3.1
    have e0:=FK hc.1
    subst e0
    obtain ⟨v,hv,hvr⟩:=q.get p _ hq
    obtain ⟨dz,f1,m1,t1,r1⟩:=hm.uA i e k hk hc3.2 (v:=v) hvr
    refine ⟨⟨dz,m1,fun t'=>?_⟩,hr.defers,hr.size⟩
    show cK _ _ _ (up st.s t _ t') _
    by_cases e:t'=t
    ·subst e;rw [aR];exact ⟨vs,ev,aY.set (t1.l q) (fun u hu=>by rw [hv] at hu;cases hu;exact r1)⟩
    ·rw [dM _ _ _ _ e];exact t1.v (hs t')
 | cell b p i e k=>
  simp only [DC]
  split
  rotate_left
  ·exact hr
  rename_i cs ecs
  cases hq:cs[p]? with
  | none=>exact hr
  | some y=>
   simp only []
   split
   rotate_left
   ·exact hr
   rename_i hc
   have hc:=(Bool.and_eq_true _ _).mp hc
   have hc1:=(Bool.and_eq_true _ _).mp hc.1
   have hc3:=(Bool.and_eq_true _ _).mp hc1.2
   have hk:0<k:=Nat.le_of_ble_eq_true hc3.1
   have hbi:b≠i:=fun h=>by have:=hc.2;simp [h] at this
   have e0:=FK hc1.1
   subst e0
   have dy:=hm.rep b _ ecs
   cases d_:φ b with
   | nil a'=>rw [d_] at dy;exact dy.elim
   | blk x c=>
    rw [d_] at dy
    obtain ⟨vs,T,h1,h2⟩:=dy
    obtain ⟨v,hv,hvr⟩:=h2.get p _ hq
    obtain ⟨dz,f1,m1,t1,r1⟩:=hm.uA i e k hk hc3.2 (v:=v) hvr
    have hb1:(yL i e k st.h) b=st.h b:=by
     unfold yL;split
     ·exact dM _ _ _ _ hbi
     ·rfl
    have hg1:((yL i e k st.h) b).b=some (.box cs):=by rw [hb1];exact ecs
    have aFM:=m1.rep b _ hg1
    have Wp:dz b= .blk x c:=by rw [f1 b hbi];exact d_
    have key:=m1.upd (bq:=dz) (H':=up (yL i e k st.h) b ⟨(st.h b).g,some (.box (cs.set p (Pm.uA i ((st.h i).g+1))))⟩) (w':=w) (fun j=>j=b) (fun j hj=>⟨rfl,dM _ _ _ _ hj⟩)
     (fun j hj=>by subst hj;rw [aR];exact .inr ⟨rfl,by rw [hb1],by rw [hg1];trivial⟩) (fun _ _ _=>rfl)
     (fun j b' c' hj hp=>⟨(m1.lt j b' c' hp).1,.inr ⟨c',hp⟩⟩) (fun a a' _ _ _ h1 h2 _ _=>h1.trans h2.symm)
     (fun j hj uH=>by
      subst hj
      refine ⟨fun b0 h=>?_,.inl rfl⟩
      rw [hg1] at h;rw [aR]
      cases b0<;>first | trivial | exact h.elim) (Nat.le_refl _) ⟨rfl,rfl,rfl⟩ (fun tr j b' hj hb'=>by
      subst hj
      rw [aR] at hb'
      simp only [Option.some.injEq] at hb'
      subst hb'
      rw [Wp]
      exact ⟨vs,T,h1,aY.set (tr.l (t1.l h2)) (fun u hu=>by rw [hv] at hu;cases hu;exact tr.v r1)⟩)
    exact ⟨⟨dz,key.1,fun t'=>key.2.v (t1.v (hs t'))⟩,hr.defers,hr.size⟩
theorem FL{st:St}{a:Act}{w:World}(L:List Nat)(B:List (Nat×Loc))(A:List NA)(hr:Rel E m aQ w0 N st a w):Rel E m aQ w0 N (au L B A st) a w:=by
 unfold au
 refine as0 L _ ?_
 unfold acts
 induction A generalizing st with
 | nil=>exact hr
 | cons x A ih=>exact ih (ajF x hr)
end
end Go.Proofs.YtimbfadnabfabaaGreatDoor.Pm
