/- The small machine: how a run of it is followed. No program is named here. -/
import Derived.Test.YtimbfadnabfabaaGreatDoorPg
namespace Go.Proofs.YtimbfadnabfabaaGreatDoor.Pm

inductive It where
 | seq (b:ak)
 | blk (id:Nat)
section
variable {γ : dZ} {Q : PX → St → Prop}
def gq(γ:dZ)(Q:PX→St→Prop):List It→PX→St→Prop
 | [],e,st=>Q e st
 | .seq b::k,.normal,st=> ∃n e iJ,prun γ n b st=some (e,iJ)∧gq γ Q k e iJ
 | .seq _::k,.exit i,st=>gq γ Q k (.exit i) st
 | .seq _::k,.ret,st=>gq γ Q k .ret st
 | .blk _::k,.normal,st=>gq γ Q k .normal st
 | .blk id::k,.exit i,st=>if i=id then gq γ Q k .normal st else gq γ Q k (.exit i) st
 | .blk _::k,.ret,st=>gq γ Q k .ret st
def R(γ:dZ)(Q:PX→St→Prop)(c:ak)(k:List It)(st:St):Prop:= ∃n e iJ,prun γ n c st=some (e,iJ)∧gq γ Q k e iJ
theorem PS(e:PX)(st:St):gq γ Q [] e st=Q e st:=by cases e<;>rfl
theorem Ig(id:Nat)(k:List It)(i:Nat)(st:St):gq γ Q (.blk id::k) (.exit i) st=if i=id then gq γ Q k .normal st else gq γ Q k (.exit i) st:=rfl
theorem as8(k:List It)(st:St):R γ Q .skip k st=gq γ Q k .normal st:=
 propext ⟨fun ⟨_,_,_,h,q⟩=>by simp only [prun,Option.some.injEq,Prod.mk.injEq] at h;obtain ⟨rfl,rfl⟩:=h;exact q,fun q=>⟨0,_,_,rfl,q⟩⟩
theorem as9(i:Nat)(k:List It)(st:St):R γ Q (.exit i) k st=gq γ Q k (.exit i) st:=
 propext ⟨fun ⟨_,_,_,h,q⟩=>by simp only [prun,Option.some.injEq,Prod.mk.injEq] at h;obtain ⟨rfl,rfl⟩:=h;exact q,fun q=>⟨0,_,_,rfl,q⟩⟩
theorem azB(k:List It)(st:St):R γ Q .ret k st=gq γ Q k .ret st:=
 propext ⟨fun ⟨_,_,_,h,q⟩=>by simp only [prun,Option.some.injEq,Prod.mk.injEq] at h;obtain ⟨rfl,rfl⟩:=h;exact q,fun q=>⟨0,_,_,rfl,q⟩⟩
theorem as_(L:List Nat)(B:List (Nat×Loc))(A:List NA)(c:ak)(k:List It)(st:St):R γ Q (.keep L B A c) k st=R γ Q c k (au L B A st):=rfl
theorem azC(a b:ak)(k:List It)(st:St):R γ Q (.seq a b) k st=R γ Q a (.seq b::k) st:=by
 refine propext ⟨?_,?_⟩
 ·rintro ⟨n,e,iJ,h,q⟩
  simp only [prun] at h
  split at h
  ·rename_i bl hs
   exact ⟨n,.normal,bl,hs,n,e,iJ,h,q⟩
  ·rename_i hne
   refine ⟨n,e,iJ,h,?_⟩
   cases e with
   | normal=>exact absurd h (hne iJ)
   | exit i=>exact q
   | ret=>exact q
 ·rintro ⟨n,e,iJ,h,q⟩
  cases e with
  | normal=>
   obtain ⟨n2,e2,jD,h2,q⟩:=q
   refine ⟨max n n2,e2,jD,?_,q⟩
   simp only [prun,fq (Nat.le_max_left n n2) _ _ _ h,fq (Nat.le_max_right n n2) _ _ _ h2]
  | exit i=>exact ⟨n,_,iJ,by simp only [prun,h],q⟩
  | ret=>exact ⟨n,_,iJ,by simp only [prun,h],q⟩
theorem ajK(id:Nat)(c:ak)(k:List It)(st:St):R γ Q (.block id c) k st=R γ Q c (.blk id::k) st:=by
 refine propext ⟨?_,?_⟩
 ·rintro ⟨n,e,iJ,h,q⟩
  simp only [prun] at h
  cases hq:prun γ n c st with
  | none=>rw [hq] at h;cases h
  | some r=>
   obtain ⟨e',s⟩:=r
   rw [hq] at h
   refine ⟨n,e',s,hq,?_⟩
   cases e' with
   | normal=>simp only [blk,Option.some.injEq,Prod.mk.injEq] at h;obtain ⟨rfl,rfl⟩:=h;exact q
   | ret=>simp only [blk,Option.some.injEq,Prod.mk.injEq] at h;obtain ⟨rfl,rfl⟩:=h;exact q
   | exit i=>
    simp only [blk] at h
    rw [Ig]
    split at h
    ·rename_i hi;simp only [Option.some.injEq,Prod.mk.injEq] at h;obtain ⟨rfl,rfl⟩:=h;rw [if_pos hi];exact q
    ·rename_i hi;simp only [Option.some.injEq,Prod.mk.injEq] at h;obtain ⟨rfl,rfl⟩:=h;rw [if_neg hi];exact q
 ·rintro ⟨n,e,iJ,h,q⟩
  cases e with
  | normal=>exact ⟨n,.normal,iJ,by simp only [prun,h,blk],q⟩
  | ret=>exact ⟨n,.ret,iJ,by simp only [prun,h,blk],q⟩
  | exit i=>
   rw [Ig] at q
   by_cases hi:i=id
   ·rw [if_pos hi] at q;exact ⟨n,.normal,iJ,by simp only [prun,h,blk,if_pos hi],q⟩
   ·rw [if_neg hi] at q;exact ⟨n,.exit i,iJ,by simp only [prun,h,blk,if_neg hi],q⟩
def JH(b:Option Bool)(x y:Prop):Prop:=match b with | some true=>x | some false=>y | none=>False
theorem Z2(c:Operand)(t e:ak)(k:List It)(st:St):R γ Q (.cond c t e) k st=JH ((b8 st.s c).bool?) (R γ Q t k st) (R γ Q e k st):=by
 unfold R
 cases hb:(b8 st.s c).bool? with
 | none=>simp only [prun,hb,JH];simp
 | some b=>cases b<;>simp only [prun,hb,JH,if_true,Bool.false_eq_true,if_false]
def axU(o:Option St)(K:St→Prop):Prop:=match o with | some st=>K st | none=>False
def Z3(b:Option Bool)(want:Bool)(x y:Prop):Prop:=match b with | some c=>if c=want then x else y | none=>False
theorem ajL(pos:List PO)(k:List It)(st:St):R γ Q (.cU pos []) k st=R γ Q (.ai pos) k st:=by
 have key: ∀(pos:List PO) (st:St),(gp γ pos st).map (·.2)=pU γ pos st:=by
  intro pos
  induction pos with
  | nil=>intro st;rfl
  | cons o r ih=>
   intro st
   simp only [gp,pU]
   cases iV γ o st with
   | none=>rfl
   | some x=>
    simp only
    rw [←ih]
    cases gp γ r (apply x st)<;>rfl
 unfold R
 simp only [prun,←key]
 cases gp γ pos st with
 | none=>rfl
 | some q=>obtain ⟨a,b⟩:=q;simp
def RD(γ:dZ)(Q:PX→St→Prop)(gy:List (Nat×Nat))(k:List It):List (List (Nat×Bool))→List PO→St→Prop
 | acc,[],st=>(gy.all fun x=>apart (acc.getD x.1 []) (acc.getD x.2 []))=true∧gq γ Q k .normal st
 | acc,o::r,st=>match iV γ o st with
  | some x=>RD γ Q gy k (acc++ [x.tc]) r (apply x st)
  | none=>False
theorem Z4(pos:List PO)(gy:List (Nat×Nat))(k:List It)(st:St):R γ Q (.cU pos gy) k st=RD γ Q gy k [] pos st:=by
 have key: ∀(pos:List PO) (st:St) (acc:List (List (Nat×Bool))),RD γ Q gy k acc pos st↔ ∃outs bl,gp γ pos st=some (outs,bl)∧(gy.all fun x=>apart ((acc++outs.map (·.tc)).getD x.1 []) ((acc++outs.map (·.tc)).getD x.2 []))=true∧gq γ Q k .normal bl:=by
  intro pos
  induction pos with
  | nil=>
   intro st acc
   simp only [RD,gp]
   constructor
   ·rintro ⟨h1,h2⟩;exact ⟨[],st,rfl,by simpa using h1,h2⟩
   ·rintro ⟨outs,bl,h,h1,h2⟩
    simp only [Option.some.injEq,Prod.mk.injEq] at h
    obtain ⟨rfl,rfl⟩:=h
    exact ⟨by simpa using h1,h2⟩
  | cons o r ih=>
   intro st acc
   simp only [RD,gp]
   cases iV γ o st with
   | none=>simp
   | some x=>
    simp only
    rw [ih]
    constructor
    ·rintro ⟨outs,bl,h,h1,h2⟩
     exact ⟨x::outs,bl,by rw [h],by simpa using h1,h2⟩
    ·rintro ⟨outs,bl,h,h1,h2⟩
     split at h
     ·rename_i l s hs
      simp only [Option.some.injEq,Prod.mk.injEq] at h
      obtain ⟨rfl,rfl⟩:=h
      exact ⟨l,s,hs,by simpa using h1,h2⟩
     ·cases h
 have tc: ∀(outs:List Out) (i:Nat),Mb outs i=([]++outs.map (fun o:Out=>o.tc)).getD i []:=by
  intro outs i
  simp only [Mb,List.nil_append,List.getD_eq_getElem?_getD,List.getElem?_map]
  cases outs[i]?<;>rfl
 refine propext ⟨?_,fun h=>?_⟩
 ·rintro ⟨n,e,iJ,h,q⟩
  simp only [prun] at h
  split at h
  ·rename_i outs bl hs
   split at h
   ·rename_i hap
    simp only [Option.some.injEq,Prod.mk.injEq] at h
    obtain ⟨rfl,rfl⟩:=h
    exact (key pos st []).2 ⟨outs,bl,hs,by simpa only [tc] using hap,q⟩
   ·cases h
  ·cases h
 ·obtain ⟨outs,bl,hs,hap,q⟩:=(key pos st []).1 h
  refine ⟨0,.normal,bl,?_,q⟩
  simp only [prun,hs]
  rw [if_pos (by simpa only [tc] using hap)]
def axV(o:Option (St×List (Nat×Bool)))(K:List (Nat×Bool)→St→Prop):Prop:=match o with | some (st,t)=>K t st | none=>False
def azD(fx:Bool)(m:Nat)(rs:List PR)(r:PV×List bM):PX→St→Prop
 | .normal,st=>yN fx st m rs=some r
 | .ret,st=>yN fx st m rs=some r
 | .exit _,_=>False
def aU(fc:aK)(m:Nat)(r:PV×List bM)(e:PX)(st:St):Prop:=azD (Md fc.fin) m fc.res r e (dV fc.fin st)
theorem yS{γ:dZ}{fc:aK}{args:List PV}{bs:List bM}{r:PV×List bM}(hl:args.length≤fc.N)(h:R γ (aU fc bs.length r) fc.body [] (tC args bs)):yO γ fc args bs=some r:=by
 obtain ⟨n,e,iJ,h1,q⟩:=h
 rw [PS] at q
 refine afq (n:=n) ?_
 unfold tK
 rw [if_pos hl,h1]
 cases e with
 | normal=>exact q
 | ret=>exact q
 | exit i=>exact q.elim
theorem ata{ay:Nat→Option aK}{base:dZ}{d f:Nat}{fc:aK}{args:List PV}{bs:List bM}{r:PV×List bM}(hc:ay f=some fc)(hz:fc.z=false)(hl:args.length≤fc.N)(hd:1≤d)
  (h:R (bZ ay base (d-1)) (aU fc bs.length r) fc.body [] (tC args bs)):bZ ay base d f args bs=some r:=by
 obtain ⟨d,rfl⟩: ∃x,d=x+1:=⟨d-1,by omega⟩
 simp only [Nat.add_sub_cancel] at h
 simp only [bZ,hc,PK,hz]
 rw [if_neg (by simp)]
 exact yS hl h
theorem ajM{ay:Nat→Option aK}{base:dZ}{d f m:Nat}{fc:aK}{cs:List PD}{ar:List PV}{bs:List bM}{r:PV×List bM}(hc:ay f=some fc)(hz:fc.z=true)(hl:ar.length+1≤fc.N)(hd:1≤d)
  (h1:R (bZ ay base (d-1)) (aU fc bs.length r) fc.body [] (tC (.jv false m cs::ar) bs)) (h2:m=0→R (bZ ay base (d-1)) (aU fc bs.length r) fc.body [] (tC (.jv true 0 []::ar) bs)):bZ ay base d f (.d (.sl m cs)::ar) bs=some r:=by
 obtain ⟨d,rfl⟩: ∃x,d=x+1:=⟨d-1,by omega⟩
 simp only [Nat.add_sub_cancel] at h1 h2
 simp only [bZ,hc,PK,hz,if_true,yS (args:= .jv false m cs::ar) (by simpa using hl) h1]
 by_cases hm:m=0
 ·rw [if_pos (.inr (yS (by simpa using hl) (h2 hm)))]
 ·rw [if_pos (.inl hm)]
end
-- reading
end Go.Proofs.YtimbfadnabfabaaGreatDoor.Pm

namespace Go.Proofs.YtimbfadnabfabaaGreatDoor.Pm
@[congr] theorem asy {b b' : Option Bool} (w : Bool) (x y : Prop) (h : b = b') : Z3 b w x y = Z3 b' w x y := by rw [h]
@[congr] theorem atb {b b' : Option Bool} (x y : Prop) (h : b = b') : JH b x y = JH b' x y := by rw [h]
@[congr] theorem axW {o o' : Option St} (K : St → Prop) (h : o = o') : axU o K = axU o' K := by rw [h]
@[congr] theorem axX {o o' : Option (St × List (Nat × Bool))} (K : List (Nat × Bool) → St → Prop) (h : o = o') : axV o K = axV o' K := by rw [h]
section
variable {p : Prop} [Decidable p] {x y : Prop}
end
theorem Z5{H:Nat→cw}{m:Nat}: ∀(l:List PV) (ids:List Nat),(∀p∈l,∃x,p= .d x)→lZ H m l ids=some (l,ids)
 | [],ids,_=>rfl
 | p::l,ids,h=>by
  obtain ⟨x,rfl⟩:=h p (by simp)
  simp only [lZ,kI,Z5 l ids (fun q hq=>h q (by simp [hq]))]
end Go.Proofs.YtimbfadnabfabaaGreatDoor.Pm

