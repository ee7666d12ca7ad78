/- The small machine: blocks given up, their slices data from then on. No program is named here. -/
import Derived.Test.YtimbfadnabfabaaGreatDoorPs
namespace Go.Proofs.YtimbfadnabfabaaGreatDoor.Pm
open Go.RowKit

section
variable {E : Nat → Prop} {m : List bM} {aQ φ bq : Nat → cr} {H H' : Nat → cw} {w0 w : World}
mutual
theorem NC(hm:Mem E m aQ w0 φ H w)(tr:Tr E φ H w bq H' w)(D:Nat→Bool)(h8: ∀i,D i=true→(H i).b≠none→m.length≤i)(hX: ∀b,b<w.heap.size→(∃i c,D i=true∧m.length≤i∧φ i= .blk b c)→ ¬cW E bq b):
  ∀(p:PV) (v:Value),cK (cW E φ) w (bk φ H) p v→cK (cW E bq) w (bk bq H') (mP D H p) v
 | .d x,v,q=>tr.v (p:= .d x) q
 | .cD cs,v,q=>tr.v (p:= .cD cs) q
 | .nil,v,q=>q
 | .jv z n cs,v,q=>tr.v (p:= .jv z n cs) q
 | .un,v,_=>trivial
 | .agg cs,v,⟨vs,e,q⟩=>⟨vs,e,uK hm tr D h8 hX cs _ q⟩
 | .bH cs,v,⟨vs,e,q⟩=>⟨vs,e,uK hm tr D h8 hX cs _ q⟩
 | .fn f cs,v,⟨vs,e,q⟩=>⟨vs,e,uK hm tr D h8 hX cs _ q⟩
 | .r (.own ..),v,q=>q.elim
 | .r (.ptr i g o),v,q=>by
  unfold mP
  split
  ·trivial
  ·exact tr.v (p:= .r (.ptr i g o)) q
 | .r (.aL i g l n),v,q=>by
  unfold mP
  split
  ·rename_i hD
   split
   ·rename_i e k cs hl
    obtain ⟨hg,hb⟩:=hm.iA hl
    have ha:fP H (.r (.aL i g l n))=some (n,(cs.drop (l*k)).take (n*k)):=by simp only [fP,hl]
    obtain ⟨a,c,us,hv,h1,h2,h3,h4,h5⟩:=hm.rN ha q
    refine ⟨a,c,hv,h1,h2,h3,?_⟩
    rcases h5 with h5 | ⟨b,o,ea,nE,hc⟩
    ·exact .inl h5
    ·by_cases hne:(cs.drop (l*k)).take (n*k)= []
     ·exact .inl hne
     ·obtain ⟨_,_,q2⟩:=q
      obtain ⟨hk,hle,hp⟩:=q2 hg e k cs hb
      have hx: ¬cW E bq b:=by
       cases d_:φ i with
       | nil a'=>rw [d_] at hp;obtain ⟨_,_,rfl⟩:=hp;exact absurd (by simp) hne
       | blk b1 c1=>
        rw [d_] at hp
        obtain ⟨a',c',hv',_,_,h6,_,_⟩:=hp
        have h6:=h6 (by
         rcases Nat.eq_zero_or_pos n with h0 | h0
         ·subst h0;exact absurd (by simp) hne
         ·exact h0)
        rw [hv] at hv';cases hv'
        rw [h6] at ea;cases ea
        exact hX _ nE ⟨i,c1,hD,h8 i hD (by rw [hb];simp),d_⟩
      refine .inr ⟨b,o,ea,hx,nE,fu.of fun j y hy=>?_⟩
      obtain ⟨u,V7,hu2⟩:=h4.Cy j y hy
      exact ⟨u,hc j u V7,dS.keep tr.ch y u hu2⟩
   ·trivial
  ·exact tr.v (p:= .r (.aL i g l n)) q
theorem uK(hm:Mem E m aQ w0 φ H w)(tr:Tr E φ H w bq H' w)(D:Nat→Bool)(h8: ∀i,D i=true→(H i).b≠none→m.length≤i)(hX: ∀b,b<w.heap.size→(∃i c,D i=true∧m.length≤i∧φ i= .blk b c)→ ¬cW E bq b):
  ∀(p:List PV) (v:List Value),aY (cW E φ) w (bk φ H) p v→aY (cW E bq) w (bk bq H') (jV D H p) v
 | [],_,q=>q
 | p::ps,_,⟨v,r,e,q1,q2⟩=>⟨v,r,e,NC hm tr D h8 hX p v q1,uK hm tr D h8 hX ps r q2⟩
end
theorem Mem.freeze(hm:Mem E m aQ w0 φ H w)(D:Nat→Bool)(cv:Bool)(hD: ∀i,D i=true→(H i).b=none∨8≤i){H':Nat→cw}(hH: ∀i,H' i=if D i=true then ⟨(H i).g+1,none⟩ else ⟨(H i).g,if cv=true then Bx D H (H i).b else (H i).b⟩):
  ∃bq,Mem E m aQ w0 bq H' w∧Tr E φ H w bq H' w∧ ∀p v,cK (cW E φ) w (bk φ H) p v→cK (cW E bq) w (bk bq H') (mP D H p) v:=by
 have h8: ∀i,D i=true→m.length≤i:=by
  intro i hi
  rcases hD i hi with h | h
  ·apply Classical.byContradiction
   intro hc
   have hlt:i<m.length:=by omega
   have:=(hm.pass i m[i] (by simp [hlt])).1
   rw [h] at this
   cases hk:m[i] with
   | box=>rw [hk] at this;exact this
   | own=>rw [hk] at this;exact this
  ·have:=hm.m8;omega
 let bq:Nat→cr:=fun i=>if D i=true then .nil none else φ i
 have hX: ∀b,b<w.heap.size→(∃i c,D i=true∧m.length≤i∧φ i= .blk b c)→ ¬cW E bq b:=by
  rintro b hb ⟨i,c,hi,hmi,hp⟩ (hx | ⟨j,c',hx⟩)
  ·have:=hm.ext _ hx
   rcases (hm.lt i b c hp).2 with h | ⟨h,_⟩<;>omega
  ·by_cases hj:D j=true
   ·simp only [bq,hj,if_true] at hx;cases hx
   ·simp only [bq,hj] at hx
    have:=hm.inj _ _ _ _ _ hx hp
    subst this;exact hj hi
 have frb: ∀b,like b (Bx D H b):=by
  intro b
  cases b with
  | none=>simp [Bx,like]
  | some b=>cases b<;>simp [Bx,like]
 have kfr: ∀b0 b,yx b0 b→yx b0 (Bx D H b):=by
  intro b0 b h
  cases b with
  | none=>exact h
  | some b=>cases b<;>cases b0<;>first | exact h | exact h.elim
 have aCm: ∀b,like b (if cv=true then Bx D H b else b):=by
  intro b;split
  ·exact frb b
  ·cases b with
   | none=>trivial
   | some b=>cases b<;>simp [like]
 have aCn: ∀b0 b,yx b0 b→yx b0 (if cv=true then Bx D H b else b):=by
  intro b0 b h;split
  ·exact kfr b0 b h
  ·exact h
 have key:=hm.upd (bq:=bq) (H':=H') (w':=w) (fun _=>True) (fun j hj=>(hj trivial).elim) (fun j _=>by
   by_cases hj:D j=true
   ·refine .inl ?_;rw [hH,if_pos hj];exact Nat.lt_succ_self _
   ·refine .inr ⟨by simp [bq,hj],by rw [hH,if_neg hj],by rw [hH,if_neg hj];exact aCm _⟩)
  (fun _ _ _=>rfl) (fun j b c _ hp=>by
   by_cases hj:D j=true
   ·simp only [bq,hj,if_true] at hp;cases hp
   ·simp only [bq,hj] at hp;exact ⟨(hm.lt j b c hp).1,.inr ⟨c,hp⟩⟩)
  (fun i j b c c' _ _ hi hj=>by
   by_cases h1:D i=true
   ·simp only [bq,h1,if_true] at hi;cases hi
   ·by_cases h2:D j=true
    ·simp only [bq,h2,if_true] at hj;cases hj
    ·simp only [bq,h1] at hi;simp only [bq,h2] at hj;exact hm.inj _ _ _ _ _ hi hj)
  (fun j _ hj=>by
   have hn: ¬D j=true:=fun h=>by have:=h8 j h;omega
   exact ⟨fun b0 h=>by rw [hH,if_neg hn];exact aCn _ _ h,.inl (by simp [bq,hn])⟩)
  (Nat.le_refl _) ⟨rfl,rfl,rfl⟩ (fun tr j b _ hb=>by
   by_cases hj:D j=true
   ·rw [hH,if_pos hj] at hb;cases hb
   ·rw [hH,if_neg hj] at hb
    have d_:bq j=φ j:=by simp [bq,hj]
    rw [d_]
    cases hq:(H j).b with
    | none=>rw [hq] at hb;cases cv<;>simp [Bx] at hb
    | some bb=>
     rw [hq] at hb
     have q:=hm.rep j bb hq
     cases bb with
     | box cs=>
      cases cv with
      | true=>
       simp only [Bx,if_true,Option.some.injEq] at hb;subst hb
       generalize φ j=pj at*
       cases pj with
       | nil=>exact q
       | blk x c=>
        obtain ⟨vs,T,q1,q2⟩:=q
        exact ⟨vs,T,q1,uK hm tr D (fun i hi _=>h8 i hi) hX _ _ q2⟩
      | false=>
       simp only [Bool.false_eq_true,if_false,Option.some.injEq] at hb;subst hb
       generalize φ j=pj at*
       cases pj with
       | nil=>exact q
       | blk x c=>
        obtain ⟨vs,T,q1,q2⟩:=q
        exact ⟨vs,T,q1,tr.l q2⟩
     | own e k cs=>
      have hb:bM.own e k cs=b:=by cases cv<;>simpa [Bx] using hb
      subst hb
      generalize φ j=pj at*
      cases pj with
      | nil=>exact q
      | blk x c=>
       obtain ⟨q0,cur,xs,q1,q2,q3,q4,q5,q6,q7⟩:=q
       exact ⟨q0,cur,xs,q1,q2,q3,q4,q5,q6,tr.l q7⟩)
 exact ⟨bq,key.1,key.2,NC hm key.2 D (fun i hi _=>h8 i hi) hX⟩
theorem Jg: ∀(a b:eu) (H:Nat→cw),eJ H (a++b)=eJ (eJ H a) b
 | [],_,_=>rfl
 | x::a,b,H=>Jg a b (up H x.1 x.2)
theorem wB(H0:Nat→cw): ∀(l:List Nat) (H:Nat→cw) (i:Nat),eJ H (l.map fun j=>(j,⟨(H0 j).g+1,none⟩)) i=if kE l i=true then ⟨(H0 i).g+1,none⟩ else H i
 | [],H,i=>by simp [eJ,kE]
 | x::l,H,i=>by
  simp only [List.map_cons,eJ]
  rw [wB H0 l]
  by_cases h:kE l i=true
  ·have:kE (x::l) i=true:=by simp [kE] at h ⊢;exact .inr h
   rw [if_pos h,if_pos this]
  ·rw [if_neg h]
   by_cases e:i=x
   ·subst e;rw [aR,if_pos (by simp [kE])]
   ·rw [dM _ _ _ _ e,if_neg (by simp [kE] at h ⊢;exact ⟨e,h⟩)]
end
end Go.Proofs.YtimbfadnabfabaaGreatDoor.Pm
