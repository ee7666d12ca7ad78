/- The small machine: blocks given up, their slices data from then on. No program is named here. -/
import Derived.Test.YtimbfadnabfabaaGreatDoorPs
namespace Go.Proofs.YtimbfadnabfabaaGreatDoor.Pm
open Go.RowKit

section
variable {E : Nat → Prop} {m : List bH} {aP φ bp : Nat → cg} {H H' : Nat → cq} {w0 w : World}
mutual
theorem MO(hm:Mem E m aP w0 φ H w)(tr:Tr E φ H w bp H' w)(D:Nat→Bool)(h8: ∀i,D i=true→(H i).b≠none→m.length≤i)(hX: ∀b,b<w.heap.size→(∃i c,D i=true∧m.length≤i∧φ i= .blk b c)→ ¬cV E bp b):
  ∀(p:PV) (v:Value),cJ (cV E φ) w (bh φ H) p v→cJ (cV E bp) w (bh bp H') (mj D H p) v
 | .d x,v,q=>tr.v (p:= .d x) q
 | .cD cs,v,q=>tr.v (p:= .cD cs) q
 | .nil,v,q=>q
 | .jo z n cs,v,q=>tr.v (p:= .jo z n cs) q
 | .un,v,_=>trivial
 | .agg cs,v,⟨vs,e,q⟩=>⟨vs,e,tS hm tr D h8 hX cs _ q⟩
 | .bE cs,v,⟨vs,e,q⟩=>⟨vs,e,tS hm tr D h8 hX cs _ q⟩
 | .fn f cs,v,⟨vs,e,q⟩=>⟨vs,e,tS hm tr D h8 hX cs _ q⟩
 | .r (.own ..),v,q=>q.elim
 | .r (.ptr i g o),v,q=>by
  unfold mj
  split
  ·trivial
  ·exact tr.v (p:= .r (.ptr i g o)) q
 | .r (.aJ i g l n),v,q=>by
  unfold mj
  split
  ·rename_i hD
   split
   ·rename_i e k cs hl
    obtain ⟨hg,hb⟩:=hm.iz hl
    have ha:fJ H (.r (.aJ i g l n))=some (n,(cs.drop (l*k)).take (n*k)):=by simp only [fJ,hl]
    obtain ⟨a,c,us,hv,h1,h2,h3,h4,h5⟩:=hm.qM ha q
    refine ⟨a,c,hv,h1,h2,h3,?_⟩
    rcases h5 with h5 | ⟨b,o,ea,mU,hc⟩
    ·exact .inl h5
    ·by_cases hne:(cs.drop (l*k)).take (n*k)= []
     ·exact .inl hne
     ·obtain ⟨_,_,q2⟩:=q
      obtain ⟨hk,hle,hp⟩:=q2 hg e k cs hb
      have hx: ¬cV E bp b:=by
       cases en:φ i with
       | nil a'=>rw [en] at hp;obtain ⟨_,_,rfl⟩:=hp;exact absurd (by simp) hne
       | blk b1 c1=>
        rw [en] at hp
        obtain ⟨a',c',hv',_,_,h6,_,_⟩:=hp
        have h6:=h6 (by
         rcases Nat.eq_zero_or_pos n with h0 | h0
         ·subst h0;exact absurd (by simp) hne
         ·exact h0)
        rw [hv] at hv';cases hv'
        rw [h6] at ea;cases ea
        exact hX _ mU ⟨i,c1,hD,h8 i hD (by rw [hb];simp),en⟩
      refine .inr ⟨b,o,ea,hx,mU,fh.of fun j y hy=>?_⟩
      obtain ⟨u,Vz,hu2⟩:=h4.Bw j y hy
      exact ⟨u,hc j u Vz,dR.keep tr.ch y u hu2⟩
   ·trivial
  ·exact tr.v (p:= .r (.aJ i g l n)) q
theorem tS(hm:Mem E m aP w0 φ H w)(tr:Tr E φ H w bp H' w)(D:Nat→Bool)(h8: ∀i,D i=true→(H i).b≠none→m.length≤i)(hX: ∀b,b<w.heap.size→(∃i c,D i=true∧m.length≤i∧φ i= .blk b c)→ ¬cV E bp b):
  ∀(p:List PV) (v:List Value),aY (cV E φ) w (bh φ H) p v→aY (cV E bp) w (bh bp H') (jO D H p) v
 | [],_,q=>q
 | p::ps,_,⟨v,r,e,q1,q2⟩=>⟨v,r,e,MO hm tr D h8 hX p v q1,tS hm tr D h8 hX ps r q2⟩
end
theorem Mem.freeze(hm:Mem E m aP w0 φ H w)(D:Nat→Bool)(cv:Bool)(hD: ∀i,D i=true→(H i).b=none∨8≤i){H':Nat→cq}(hH: ∀i,H' i=if D i=true then ⟨(H i).g+1,none⟩ else ⟨(H i).g,if cv=true then Au D H (H i).b else (H i).b⟩):
  ∃bp,Mem E m aP w0 bp H' w∧Tr E φ H w bp H' w∧ ∀p v,cJ (cV E φ) w (bh φ H) p v→cJ (cV E bp) w (bh bp H') (mj D H p) v:=by
 have h8: ∀i,D i=true→m.length≤i:=by
  intro i hi
  rcases hD i hi with h | h
  ·apply Classical.byContradiction
   intro hc
   have hlt:i<m.length:=by omega
   have:=(hm.pass i m[i] (by simp [hlt])).1
   rw [h] at this
   cases hk:m[i] with
   | box=>rw [hk] at this;exact this
   | own=>rw [hk] at this;exact this
  ·have:=hm.m8;omega
 let bp:Nat→cg:=fun i=>if D i=true then .nil none else φ i
 have hX: ∀b,b<w.heap.size→(∃i c,D i=true∧m.length≤i∧φ i= .blk b c)→ ¬cV E bp b:=by
  rintro b hb ⟨i,c,hi,hmi,hp⟩ (hx | ⟨j,c',hx⟩)
  ·have:=hm.ext _ hx
   rcases (hm.lt i b c hp).2 with h | ⟨h,_⟩<;>omega
  ·by_cases hj:D j=true
   ·simp only [bp,hj,if_true] at hx;cases hx
   ·simp only [bp,hj] at hx
    have:=hm.inj _ _ _ _ _ hx hp
    subst this;exact hj hi
 have frb: ∀b,like b (Au D H b):=by
  intro b
  cases b with
  | none=>simp [Au,like]
  | some b=>cases b<;>simp [Au,like]
 have kfr: ∀b0 b,wT b0 b→wT b0 (Au D H b):=by
  intro b0 b h
  cases b with
  | none=>exact h
  | some b=>cases b<;>cases b0<;>first | exact h | exact h.elim
 have aA5: ∀b,like b (if cv=true then Au D H b else b):=by
  intro b;split
  ·exact frb b
  ·cases b with
   | none=>trivial
   | some b=>cases b<;>simp [like]
 have aA6: ∀b0 b,wT b0 b→wT b0 (if cv=true then Au D H b else b):=by
  intro b0 b h;split
  ·exact kfr b0 b h
  ·exact h
 have key:=hm.upd (bp:=bp) (H':=H') (w':=w) (fun _=>True) (fun j hj=>(hj trivial).elim) (fun j _=>by
   by_cases hj:D j=true
   ·refine .inl ?_;rw [hH,if_pos hj];exact Nat.lt_succ_self _
   ·refine .inr ⟨by simp [bp,hj],by rw [hH,if_neg hj],by rw [hH,if_neg hj];exact aA5 _⟩)
  (fun _ _ _=>rfl) (fun j b c _ hp=>by
   by_cases hj:D j=true
   ·simp only [bp,hj,if_true] at hp;cases hp
   ·simp only [bp,hj] at hp;exact ⟨(hm.lt j b c hp).1,.inr ⟨c,hp⟩⟩)
  (fun i j b c c' _ _ hi hj=>by
   by_cases h1:D i=true
   ·simp only [bp,h1,if_true] at hi;cases hi
   ·by_cases h2:D j=true
    ·simp only [bp,h2,if_true] at hj;cases hj
    ·simp only [bp,h1] at hi;simp only [bp,h2] at hj;exact hm.inj _ _ _ _ _ hi hj)
  (fun j _ hj=>by
   have hn: ¬D j=true:=fun h=>by have:=h8 j h;omega
   exact ⟨fun b0 h=>by rw [hH,if_neg hn];exact aA6 _ _ h,.inl (by simp [bp,hn])⟩)
  (Nat.le_refl _) ⟨rfl,rfl,rfl⟩ (fun tr j b _ hb=>by
   by_cases hj:D j=true
   ·rw [hH,if_pos hj] at hb;cases hb
   ·rw [hH,if_neg hj] at hb
    have en:bp j=φ j:=by simp [bp,hj]
    rw [en]
    cases hq:(H j).b with
    | none=>rw [hq] at hb;cases cv<;>simp [Au] at hb
    | some bb=>
     rw [hq] at hb
     have q:=hm.rep j bb hq
     cases bb with
     | box cs=>
      cases cv with
      | true=>
       simp only [Au,if_true,Option.some.injEq] at hb;subst hb
       generalize φ j=pj at*
       cases pj with
       | nil=>exact q
       | blk x c=>
        obtain ⟨vs,T,q1,q2⟩:=q
        exact ⟨vs,T,q1,tS hm tr D (fun i hi _=>h8 i hi) hX _ _ q2⟩
      | false=>
       simp only [Bool.false_eq_true,if_false,Option.some.injEq] at hb;subst hb
       generalize φ j=pj at*
       cases pj with
       | nil=>exact q
       | blk x c=>
        obtain ⟨vs,T,q1,q2⟩:=q
        exact ⟨vs,T,q1,tr.l q2⟩
     | own e k cs=>
      have hb:bH.own e k cs=b:=by cases cv<;>simpa [Au] using hb
      subst hb
      generalize φ j=pj at*
      cases pj with
      | nil=>exact q
      | blk x c=>
       obtain ⟨q0,cur,xs,q1,q2,q3,q4,q5,q6,q7⟩:=q
       exact ⟨q0,cur,xs,q1,q2,q3,q4,q5,q6,tr.l q7⟩)
 exact ⟨bp,key.1,key.2,MO hm key.2 D (fun i hi _=>h8 i hi) hX⟩
theorem Ib: ∀(a b:eu) (H:Nat→cq),eJ H (a++b)=eJ (eJ H a) b
 | [],_,_=>rfl
 | x::a,b,H=>Ib a b (up H x.1 x.2)
theorem u5(H0:Nat→cq): ∀(l:List Nat) (H:Nat→cq) (i:Nat),eJ H (l.map fun j=>(j,⟨(H0 j).g+1,none⟩)) i=if kr l i=true then ⟨(H0 i).g+1,none⟩ else H i
 | [],H,i=>by simp [eJ,kr]
 | x::l,H,i=>by
  simp only [List.map_cons,eJ]
  rw [u5 H0 l]
  by_cases h:kr l i=true
  ·have:kr (x::l) i=true:=by simp [kr] at h ⊢;exact .inr h
   rw [if_pos h,if_pos this]
  ·rw [if_neg h]
   by_cases e:i=x
   ·subst e;rw [aQ,if_pos (by simp [kr])]
   ·rw [dK _ _ _ _ e,if_neg (by simp [kr] at h ⊢;exact ⟨e,h⟩)]
end
end Go.Proofs.YtimbfadnabfabaaGreatDoor.Pm
